/-
  Layer 17 in plain words: the changes that make a cache; rows of structures in memory. No condition.
-/
import Derived.Test.YtjepemfllgjhfaaApiWire
import Derived.Test.YtjepemfllgjhfaaRowS
import Derived.Test.YtjepemfllgjhfaaLists
namespace Go.Proofs.Ytjepemfllgjhfaa
open Go.RowKit

def attr0 : Attr := ⟨0, 0, 0, 0, 0, 0, 0, 0, 0, 0⟩
def change0 : Change := ⟨0, 0, 0, [], [], [], attr0, 0, 0⟩
def hChange (h : Held) : Change := ⟨1, h.epoch, h.serial, h.up, [], [], attr0, 0, 0⟩
def fChange (f : Cached) : Change := ⟨3, 0, 0, f.up, [], [], f.attr, 0, 0⟩
def nChange (n : Known) : Change := ⟨6, 0, 0, n.dir, n.name, n.up, attr0, 0, 0⟩
def bChange (b : Placed) : Change := ⟨8, 0, 0, b.up, [], [], attr0, b.no, b.slot⟩

/-- the k-th row of a slice that came in -/
theorem rowCell {α : Type} {w : World} {sz : Nat} {A : Option Addr} {l : List α} {vals : α → List Value} (hA : At w sz A (l.map vals)) {k : Nat} (hk : k < l.length) :
    ∃ b off, A = some ⟨b, off, none⟩ ∧ b < w.heap.size ∧ ∀ j u, (vals l[k])[j]? = some u → w.cell? ⟨b, off + k * sz + j, none⟩ = some u := by
  obtain ⟨b, off, rfl, hb, hc⟩ := hA.getD (k := k) (by simpa using hk)
  exact ⟨b, off, rfl, hb, fun j u hu => hc j u (by simpa using hu)⟩
/-- a slice of structures of the call's own -/
abbrev RowL {α : Type} (vals : α → List Value) (w : World) (B : Nat) (e : TypeId) (sz : Nat) (v : Value) (l : List α) : Prop := RowS w B e sz v (l.map vals)
theorem map_snoc {α : Type} (vals : α → List Value) (l : List α) (x : α) : l.map vals ++ [vals x] = (l ++ [x]).map vals := by simp
theorem snoc_next {α β : Type} (pre : List β) (f : α → β) (l : List α) (k : Nat) (hk : k < l.length) : (pre ++ (l.take k).map f) ++ [f l[k]] = pre ++ (l.take (k + 1)).map f := by
  rw [take_next _ _ hk, List.map_append, List.append_assoc]; rfl
end Go.Proofs.Ytjepemfllgjhfaa

/-
  How calls, entries, changes and caches that came in are read (written by wip/tools/structs.py; the cache by hand). No condition.
-/
import Derived.Test.YtmkhpgpnahligaaProg
import Derived.Test.YtmkhpgpnahligaaApiWire
import Derived.Test.YtmkhpgpnahligaaAttrOpen
namespace Go.Proofs.Ytmkhpgpnahligaa
open Go.ChangeShapes Go.WideShapes Go.ChangeAt Go.RowKit Go.Deep
section
variable {H : Type} {enc : TypeId × Value → H} {w : World} {base : Nat} {spare : Nat → Bool} {held : Bool} {fuel : Nat} {cs : List Value} {x : DataW H × List MemPlace}

theorem open_Entry (h : DataW.trod enc Try.prog w base spare held fuel 35 cs = some x) : ∃ a : Entry, cs = a.vals ∧ a.good := by
  have hl : cs.length = 15 := (len_of Try.underlying35 h).trans (by kernel_rfl)
  obtain ⟨z0, h0, g0⟩ := int_field Try.underlying35 h 0 0 _ rfl (e := 3) rfl rfl (by kernel_rfl) Try.underlying3
  obtain ⟨z1, h1, g1⟩ := string_field Try.underlying35 h 1 1 _ rfl (e := 9) rfl rfl (by kernel_rfl) Try.underlying9
  obtain ⟨z2, h2, g2⟩ := int_field Try.underlying35 h 2 2 _ rfl (e := 3) rfl rfl (by kernel_rfl) Try.underlying3
  obtain ⟨ps3, m3, y3, h3, hs3⟩ := sub_field Try.underlying35 h 3 3 11 _ rfl (e := 33) rfl rfl (by kernel_rfl)
  obtain ⟨z3, rfl, g3⟩ := open_Post hs3
  obtain ⟨z4, h4, g4⟩ := string_field Try.underlying35 h 4 14 _ rfl (e := 9) rfl rfl (by kernel_rfl) Try.underlying9
  have hend : cs.drop 15 = [] := List.drop_of_length_le (by omega)
  have e : cs = cs.drop 0 := rfl
  simp only [Nat.reduceAdd] at h0 h1 h2 h3 h4
  refine ⟨⟨z0, z1.data.toList, z2, z3, z4.data.toList⟩, e.trans ?_, ⟨g0, by simpa using g1, g2, g3, by simpa using g4⟩⟩
  rw [h0, h1, h2, h3, h4, hend]
  simp only [Entry.vals, bs_list]
  rfl

instance : Inhabited Held := ⟨⟨0, 0, []⟩⟩
instance : Inhabited Cached := ⟨⟨[], ⟨0, 0, 0, 0, 0, 0, 0, 0, 0, 0⟩⟩⟩
instance : Inhabited Known := ⟨⟨[], [], []⟩⟩
instance : Inhabited Placed := ⟨⟨[], 0, 0⟩⟩
instance : Inhabited Change := ⟨⟨0, 0, 0, [], [], [], ⟨0, 0, 0, 0, 0, 0, 0, 0, 0, 0⟩, 0, 0⟩⟩
instance : Inhabited Entry := ⟨⟨0, [], 0, ⟨false, ⟨0, 0, 0, 0, 0, 0, 0, 0, 0, 0⟩⟩, []⟩⟩

/-- a cache: the slices' headers, and what is in them -/
structure Cch where
  ha : Option Addr
  hc : Nat
  hs : List Held
  fa : Option Addr
  fc : Nat
  fs : List Cached
  na : Option Addr
  nc : Nat
  ns : List Known
  ba : Option Addr
  bc : Nat
  bl : List Placed
def Cch.vals (x : Cch) : List Value := [.slice x.ha x.hs.length x.hc, .slice x.fa x.fs.length x.fc, .slice x.na x.ns.length x.nc, .slice x.ba x.bl.length x.bc]
def Cch.sized (x : Cch) : Prop := x.hs.length ≤ maxLen ∧ x.fs.length ≤ maxLen ∧ x.ns.length ≤ maxLen ∧ x.bl.length ≤ maxLen
/-- what lies in memory of a cache -/
structure Cch.There (x : Cch) (w : World) : Prop where
  h : At w 3 x.ha (x.hs.map Held.vals)
  f : At w 11 x.fa (x.fs.map Cached.vals)
  n : At w 3 x.na (x.ns.map Known.vals)
  b : At w 3 x.ba (x.bl.map Placed.vals)
theorem Cch.There.below {c : Cch} {w w' : World} (h : c.There w) (hb : Below w.heap.size w w') : c.There w' := ⟨h.h.below hb, h.f.below hb, h.n.below hb, h.b.below hb⟩
/-- entries that came in -/
theorem open_entries (hlt : ∀ p ∈ x.2, p.block < w.heap.size) {A : Option Addr} {n c : Nat} (h : DataW.trod enc Try.prog w base spare held fuel 22 [.slice A n c] = some x) :
    ∃ l : List Entry, n = l.length ∧ n ≤ maxLen ∧ At w 15 A (l.map Entry.vals) ∧ ∀ t ∈ l, t.good := by
  obtain ⟨l, hn, hA, hg⟩ := rows_of (α := Entry) (sz := 15) Try.underlying22 (by kernel_rfl) (by omega) Entry.vals Entry.good hlt (fun _ _ _ _ ht => open_Entry ht) h
  exact ⟨l, hn, slice_len Try.underlying22 h, hA, hg⟩
end
end Go.Proofs.Ytmkhpgpnahligaa

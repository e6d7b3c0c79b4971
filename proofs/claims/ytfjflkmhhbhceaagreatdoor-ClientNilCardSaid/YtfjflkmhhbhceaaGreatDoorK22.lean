/-
  How calls, entries, changes and caches that came in are read (written by wip/tools/structs.py; the cache by hand). No condition.
-/
import Derived.Test.YtfjflkmhhbhceaaGreatDoorProg
import Derived.Test.YtfjflkmhhbhceaaGreatDoorK04
import Derived.Test.YtfjflkmhhbhceaaGreatDoorK13
namespace Go.Proofs.YtfjflkmhhbhceaaGreatDoor
open Go.ChangeShapes Go.WideShapes Go.ChangeAt Go.RowKit Go.Deep
section
variable {H : Type} {enc : TypeId × Value → H} {w : World} {base : Nat} {spare : Nat → Bool} {held : Bool} {fuel : Nat} {cs : List Value} {x : DataW H × List MemPlace}

theorem open_Parts (h : DataW.trod enc Tryz.prog w base spare held fuel 182 cs = some x) : ∃ a : Parts, cs = a.vals ∧ a.good := by
  have hl : cs.length = 3 := (len_of Tryz.underlying182 h).trans (by kernel_rfl)
  obtain ⟨z0, h0, g0⟩ := int_field Tryz.underlying182 h 0 0 _ rfl (e := 3) rfl rfl (by kernel_rfl) Tryz.underlying3
  obtain ⟨z1, h1, g1⟩ := int_field Tryz.underlying182 h 1 1 _ rfl (e := 3) rfl rfl (by kernel_rfl) Tryz.underlying3
  obtain ⟨z2, h2, g2⟩ := int_field Tryz.underlying182 h 2 2 _ rfl (e := 3) rfl rfl (by kernel_rfl) Tryz.underlying3
  have hend : cs.drop 3 = [] := List.drop_of_length_le (by omega)
  have e : cs = cs.drop 0 := rfl
  simp only [Nat.reduceAdd] at h0 h1 h2
  refine ⟨⟨z0, z1, z2⟩, e.trans ?_, ⟨g0, g1, g2⟩⟩
  rw [h0, h1, h2, hend]
  rfl

theorem open_Entry (h : DataW.trod enc Tryz.prog w base spare held fuel 126 cs = some x) : ∃ a : Entry, cs = a.vals ∧ a.good := by
  have hl : cs.length = 15 := (len_of Tryz.underlying126 h).trans (by kernel_rfl)
  obtain ⟨z0, h0, g0⟩ := int_field Tryz.underlying126 h 0 0 _ rfl (e := 3) rfl rfl (by kernel_rfl) Tryz.underlying3
  obtain ⟨z1, h1, g1⟩ := string_field Tryz.underlying126 h 1 1 _ rfl (e := 9) rfl rfl (by kernel_rfl) Tryz.underlying9
  obtain ⟨z2, h2, g2⟩ := int_field Tryz.underlying126 h 2 2 _ rfl (e := 3) rfl rfl (by kernel_rfl) Tryz.underlying3
  obtain ⟨ps3, m3, y3, h3, hs3⟩ := sub_field Tryz.underlying126 h 3 3 11 _ rfl (e := 45) rfl rfl (by kernel_rfl)
  obtain ⟨z3, rfl, g3⟩ := open_Post hs3
  obtain ⟨z4, h4, g4⟩ := string_field Tryz.underlying126 h 4 14 _ rfl (e := 9) rfl rfl (by kernel_rfl) Tryz.underlying9
  have hend : cs.drop 15 = [] := List.drop_of_length_le (by omega)
  have e : cs = cs.drop 0 := rfl
  simp only [Nat.reduceAdd] at h0 h1 h2 h3 h4
  refine ⟨⟨z0, z1.data.toList, z2, z3, z4.data.toList⟩, e.trans ?_, ⟨g0, by simpa using g1, g2, g3, by simpa using g4⟩⟩
  rw [h0, h1, h2, h3, h4, hend]
  simp only [Entry.vals, bs_list]
  rfl

theorem open_Call (h : DataW.trod enc Tryz.prog w base spare held fuel 36 cs = some x) : ∃ a : Call, cs = a.vals ∧ a.good := by
  have hl : cs.length = 24 := (len_of Tryz.underlying36 h).trans (by kernel_rfl)
  obtain ⟨z0, h0, g0⟩ := int_field Tryz.underlying36 h 0 0 _ rfl (e := 3) rfl rfl (by kernel_rfl) Tryz.underlying3
  obtain ⟨z1, h1, g1⟩ := string_field Tryz.underlying36 h 1 1 _ rfl (e := 9) rfl rfl (by kernel_rfl) Tryz.underlying9
  obtain ⟨z2, h2, g2⟩ := string_field Tryz.underlying36 h 2 2 _ rfl (e := 9) rfl rfl (by kernel_rfl) Tryz.underlying9
  obtain ⟨z3, h3, g3⟩ := string_field Tryz.underlying36 h 3 3 _ rfl (e := 9) rfl rfl (by kernel_rfl) Tryz.underlying9
  obtain ⟨z4, h4, g4⟩ := string_field Tryz.underlying36 h 4 4 _ rfl (e := 9) rfl rfl (by kernel_rfl) Tryz.underlying9
  obtain ⟨z5, h5, g5⟩ := int_field Tryz.underlying36 h 5 5 _ rfl (e := 3) rfl rfl (by kernel_rfl) Tryz.underlying3
  obtain ⟨z6, h6, g6⟩ := int_field Tryz.underlying36 h 6 6 _ rfl (e := 3) rfl rfl (by kernel_rfl) Tryz.underlying3
  obtain ⟨z7, h7, g7⟩ := int_field Tryz.underlying36 h 7 7 _ rfl (e := 3) rfl rfl (by kernel_rfl) Tryz.underlying3
  obtain ⟨z8, h8, g8⟩ := string_field Tryz.underlying36 h 8 8 _ rfl (e := 9) rfl rfl (by kernel_rfl) Tryz.underlying9
  obtain ⟨ps9, m9, y9, h9, hs9⟩ := sub_field Tryz.underlying36 h 9 9 10 _ rfl (e := 34) rfl rfl (by kernel_rfl)
  obtain ⟨z9, rfl, g9⟩ := open_Sett hs9
  obtain ⟨ps10, m10, y10, h10, hs10⟩ := sub_field Tryz.underlying36 h 10 19 2 _ rfl (e := 32) rfl rfl (by kernel_rfl)
  obtain ⟨z10, rfl, g10⟩ := open_Opt hs10
  obtain ⟨z11, h11, g11⟩ := int_field Tryz.underlying36 h 11 21 _ rfl (e := 3) rfl rfl (by kernel_rfl) Tryz.underlying3
  obtain ⟨z12, h12, g12⟩ := int_field Tryz.underlying36 h 12 22 _ rfl (e := 3) rfl rfl (by kernel_rfl) Tryz.underlying3
  obtain ⟨z13, h13, g13⟩ := string_field Tryz.underlying36 h 13 23 _ rfl (e := 9) rfl rfl (by kernel_rfl) Tryz.underlying9
  have hend : cs.drop 24 = [] := List.drop_of_length_le (by omega)
  have e : cs = cs.drop 0 := rfl
  simp only [Nat.reduceAdd] at h0 h1 h2 h3 h4 h5 h6 h7 h8 h9 h10 h11 h12 h13
  refine ⟨⟨z0, z1.data.toList, z2.data.toList, z3.data.toList, z4.data.toList, z5, z6, z7, z8.data.toList, z9, z10, z11, z12, z13.data.toList⟩, e.trans ?_, ⟨g0, by simpa using g1, by simpa using g2, by simpa using g3, by simpa using g4, g5, g6, g7, by simpa using g8, g9, g10, g11, g12, by simpa using g13⟩⟩
  rw [h0, h1, h2, h3, h4, h5, h6, h7, h8, h9, h10, h11, h12, h13, hend]
  simp only [Call.vals, bs_list]
  rfl

instance : Inhabited Held := ⟨⟨0, 0, []⟩⟩
instance : Inhabited Cached := ⟨⟨[], ⟨0, 0, 0, 0, 0, 0, 0, 0, 0, 0⟩⟩⟩
instance : Inhabited Known := ⟨⟨[], [], []⟩⟩
instance : Inhabited Placed := ⟨⟨[], 0, 0⟩⟩
instance : Inhabited Change := ⟨⟨0, 0, 0, [], [], [], ⟨0, 0, 0, 0, 0, 0, 0, 0, 0, 0⟩, 0, 0⟩⟩
instance : Inhabited Entry := ⟨⟨0, [], 0, ⟨false, ⟨0, 0, 0, 0, 0, 0, 0, 0, 0, 0⟩⟩, []⟩⟩

/-- a cache: the slices' headers, and what is in them -/
structure Cch where
  ha : Option Addr
  hc : Nat
  hs : List Held
  fa : Option Addr
  fc : Nat
  fs : List Cached
  na : Option Addr
  nc : Nat
  ns : List Known
  ba : Option Addr
  bc : Nat
  bl : List Placed
def Cch.vals (x : Cch) : List Value := [.slice x.ha x.hs.length x.hc, .slice x.fa x.fs.length x.fc, .slice x.na x.ns.length x.nc, .slice x.ba x.bl.length x.bc]
def Cch.sized (x : Cch) : Prop := x.hs.length ≤ maxLen ∧ x.fs.length ≤ maxLen ∧ x.ns.length ≤ maxLen ∧ x.bl.length ≤ maxLen
/-- what lies in memory of a cache -/
structure Cch.There (x : Cch) (w : World) : Prop where
  h : At w 3 x.ha (x.hs.map Held.vals)
  f : At w 11 x.fa (x.fs.map Cached.vals)
  n : At w 3 x.na (x.ns.map Known.vals)
  b : At w 3 x.ba (x.bl.map Placed.vals)
theorem Cch.There.below {c : Cch} {w w' : World} (h : c.There w) (hb : Below w.heap.size w w') : c.There w' := ⟨h.h.below hb, h.f.below hb, h.n.below hb, h.b.below hb⟩
/-- entries that came in -/
theorem open_entries (hlt : ∀ p ∈ x.2, p.block < w.heap.size) {A : Option Addr} {n c : Nat} (h : DataW.trod enc Tryz.prog w base spare held fuel 48 [.slice A n c] = some x) :
    ∃ l : List Entry, n = l.length ∧ n ≤ maxLen ∧ At w 15 A (l.map Entry.vals) ∧ ∀ t ∈ l, t.good := by
  obtain ⟨l, hn, hA, hg⟩ := rows_of (α := Entry) (sz := 15) Tryz.underlying48 (by kernel_rfl) (by omega) Entry.vals Entry.good hlt (fun _ _ _ _ ht => open_Entry ht) h
  exact ⟨l, hn, slice_len Tryz.underlying48 h, hA, hg⟩
end
end Go.Proofs.YtfjflkmhhbhceaaGreatDoor

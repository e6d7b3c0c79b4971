/-
  How calls, entries, changes and caches that came in are read (written by wip/tools/structs.py; the cache by hand). No condition.
-/
import Derived.Test.YtjepemfllgjhfaaProg
import Derived.Test.YtjepemfllgjhfaaApiWire
import Derived.Test.YtjepemfllgjhfaaAttrOpen
namespace Go.Proofs.Ytjepemfllgjhfaa
open Go.ChangeShapes Go.WideShapes Go.ChangeAt Go.RowKit Go.Deep
section
variable {H : Type} {enc : TypeId × Value → H} {w : World} {base : Nat} {spare : Nat → Bool} {held : Bool} {fuel : Nat} {cs : List Value} {x : DataW H × List MemPlace}

theorem open_Held (h : DataW.trod enc Try.prog w base spare held fuel 68 cs = some x) : ∃ a : Held, cs = a.vals ∧ a.good := by
  have hl : cs.length = 3 := (len_of Try.underlying68 h).trans (by kernel_rfl)
  obtain ⟨z0, h0, g0⟩ := int_field Try.underlying68 h 0 0 _ rfl (e := 3) rfl rfl (by kernel_rfl) Try.underlying3
  obtain ⟨z1, h1, g1⟩ := int_field Try.underlying68 h 1 1 _ rfl (e := 3) rfl rfl (by kernel_rfl) Try.underlying3
  obtain ⟨z2, h2, g2⟩ := string_field Try.underlying68 h 2 2 _ rfl (e := 9) rfl rfl (by kernel_rfl) Try.underlying9
  have hend : cs.drop 3 = [] := List.drop_of_length_le (by omega)
  have e : cs = cs.drop 0 := rfl
  simp only [Nat.reduceAdd] at h0 h1 h2
  refine ⟨⟨z0, z1, z2.data.toList⟩, e.trans ?_, ⟨g0, g1, by simpa using g2⟩⟩
  rw [h0, h1, h2, hend]
  simp only [Held.vals, bs_list]

theorem open_Cached (h : DataW.trod enc Try.prog w base spare held fuel 70 cs = some x) : ∃ a : Cached, cs = a.vals ∧ a.good := by
  have hl : cs.length = 11 := (len_of Try.underlying70 h).trans (by kernel_rfl)
  obtain ⟨z0, h0, g0⟩ := string_field Try.underlying70 h 0 0 _ rfl (e := 9) rfl rfl (by kernel_rfl) Try.underlying9
  obtain ⟨ps1, m1, y1, h1, hs1⟩ := sub_field Try.underlying70 h 1 1 10 _ rfl (e := 41) rfl rfl (by kernel_rfl)
  obtain ⟨z1, rfl, g1⟩ := open_Attr hs1
  have hend : cs.drop 11 = [] := List.drop_of_length_le (by omega)
  have e : cs = cs.drop 0 := rfl
  simp only [Nat.reduceAdd] at h0 h1
  refine ⟨⟨z0.data.toList, z1⟩, e.trans ?_, ⟨by simpa using g0, g1⟩⟩
  rw [h0, h1, hend]
  simp only [Cached.vals, bs_list]
  rfl

theorem open_Known (h : DataW.trod enc Try.prog w base spare held fuel 72 cs = some x) : ∃ a : Known, cs = a.vals ∧ a.good := by
  have hl : cs.length = 3 := (len_of Try.underlying72 h).trans (by kernel_rfl)
  obtain ⟨z0, h0, g0⟩ := string_field Try.underlying72 h 0 0 _ rfl (e := 9) rfl rfl (by kernel_rfl) Try.underlying9
  obtain ⟨z1, h1, g1⟩ := string_field Try.underlying72 h 1 1 _ rfl (e := 9) rfl rfl (by kernel_rfl) Try.underlying9
  obtain ⟨z2, h2, g2⟩ := string_field Try.underlying72 h 2 2 _ rfl (e := 9) rfl rfl (by kernel_rfl) Try.underlying9
  have hend : cs.drop 3 = [] := List.drop_of_length_le (by omega)
  have e : cs = cs.drop 0 := rfl
  simp only [Nat.reduceAdd] at h0 h1 h2
  refine ⟨⟨z0.data.toList, z1.data.toList, z2.data.toList⟩, e.trans ?_, ⟨by simpa using g0, by simpa using g1, by simpa using g2⟩⟩
  rw [h0, h1, h2, hend]
  simp only [Known.vals, bs_list]

theorem open_Placed (h : DataW.trod enc Try.prog w base spare held fuel 74 cs = some x) : ∃ a : Placed, cs = a.vals ∧ a.good := by
  have hl : cs.length = 3 := (len_of Try.underlying74 h).trans (by kernel_rfl)
  obtain ⟨z0, h0, g0⟩ := string_field Try.underlying74 h 0 0 _ rfl (e := 9) rfl rfl (by kernel_rfl) Try.underlying9
  obtain ⟨z1, h1, g1⟩ := int_field Try.underlying74 h 1 1 _ rfl (e := 3) rfl rfl (by kernel_rfl) Try.underlying3
  obtain ⟨z2, h2, g2⟩ := int_field Try.underlying74 h 2 2 _ rfl (e := 3) rfl rfl (by kernel_rfl) Try.underlying3
  have hend : cs.drop 3 = [] := List.drop_of_length_le (by omega)
  have e : cs = cs.drop 0 := rfl
  simp only [Nat.reduceAdd] at h0 h1 h2
  refine ⟨⟨z0.data.toList, z1, z2⟩, e.trans ?_, ⟨by simpa using g0, g1, g2⟩⟩
  rw [h0, h1, h2, hend]
  simp only [Placed.vals, bs_list]

theorem open_Change (h : DataW.trod enc Try.prog w base spare held fuel 66 cs = some x) : ∃ a : Change, cs = a.vals ∧ a.good := by
  have hl : cs.length = 18 := (len_of Try.underlying66 h).trans (by kernel_rfl)
  obtain ⟨z0, h0, g0⟩ := int_field Try.underlying66 h 0 0 _ rfl (e := 3) rfl rfl (by kernel_rfl) Try.underlying3
  obtain ⟨z1, h1, g1⟩ := int_field Try.underlying66 h 1 1 _ rfl (e := 3) rfl rfl (by kernel_rfl) Try.underlying3
  obtain ⟨z2, h2, g2⟩ := int_field Try.underlying66 h 2 2 _ rfl (e := 3) rfl rfl (by kernel_rfl) Try.underlying3
  obtain ⟨z3, h3, g3⟩ := string_field Try.underlying66 h 3 3 _ rfl (e := 9) rfl rfl (by kernel_rfl) Try.underlying9
  obtain ⟨z4, h4, g4⟩ := string_field Try.underlying66 h 4 4 _ rfl (e := 9) rfl rfl (by kernel_rfl) Try.underlying9
  obtain ⟨z5, h5, g5⟩ := string_field Try.underlying66 h 5 5 _ rfl (e := 9) rfl rfl (by kernel_rfl) Try.underlying9
  obtain ⟨ps6, m6, y6, h6, hs6⟩ := sub_field Try.underlying66 h 6 6 10 _ rfl (e := 41) rfl rfl (by kernel_rfl)
  obtain ⟨z6, rfl, g6⟩ := open_Attr hs6
  obtain ⟨z7, h7, g7⟩ := int_field Try.underlying66 h 7 16 _ rfl (e := 3) rfl rfl (by kernel_rfl) Try.underlying3
  obtain ⟨z8, h8, g8⟩ := int_field Try.underlying66 h 8 17 _ rfl (e := 3) rfl rfl (by kernel_rfl) Try.underlying3
  have hend : cs.drop 18 = [] := List.drop_of_length_le (by omega)
  have e : cs = cs.drop 0 := rfl
  simp only [Nat.reduceAdd] at h0 h1 h2 h3 h4 h5 h6 h7 h8
  refine ⟨⟨z0, z1, z2, z3.data.toList, z4.data.toList, z5.data.toList, z6, z7, z8⟩, e.trans ?_, ⟨g0, g1, g2, by simpa using g3, by simpa using g4, by simpa using g5, g6, g7, g8⟩⟩
  rw [h0, h1, h2, h3, h4, h5, h6, h7, h8, hend]
  simp only [Change.vals, bs_list]
  rfl

theorem open_Entry (h : DataW.trod enc Try.prog w base spare held fuel 45 cs = some x) : ∃ a : Entry, cs = a.vals ∧ a.good := by
  have hl : cs.length = 15 := (len_of Try.underlying45 h).trans (by kernel_rfl)
  obtain ⟨z0, h0, g0⟩ := int_field Try.underlying45 h 0 0 _ rfl (e := 3) rfl rfl (by kernel_rfl) Try.underlying3
  obtain ⟨z1, h1, g1⟩ := string_field Try.underlying45 h 1 1 _ rfl (e := 9) rfl rfl (by kernel_rfl) Try.underlying9
  obtain ⟨z2, h2, g2⟩ := int_field Try.underlying45 h 2 2 _ rfl (e := 3) rfl rfl (by kernel_rfl) Try.underlying3
  obtain ⟨ps3, m3, y3, h3, hs3⟩ := sub_field Try.underlying45 h 3 3 11 _ rfl (e := 43) rfl rfl (by kernel_rfl)
  obtain ⟨z3, rfl, g3⟩ := open_Post hs3
  obtain ⟨z4, h4, g4⟩ := string_field Try.underlying45 h 4 14 _ rfl (e := 9) rfl rfl (by kernel_rfl) Try.underlying9
  have hend : cs.drop 15 = [] := List.drop_of_length_le (by omega)
  have e : cs = cs.drop 0 := rfl
  simp only [Nat.reduceAdd] at h0 h1 h2 h3 h4
  refine ⟨⟨z0, z1.data.toList, z2, z3, z4.data.toList⟩, e.trans ?_, ⟨g0, by simpa using g1, g2, g3, by simpa using g4⟩⟩
  rw [h0, h1, h2, h3, h4, hend]
  simp only [Entry.vals, bs_list]
  rfl

theorem open_Call (h : DataW.trod enc Try.prog w base spare held fuel 89 cs = some x) : ∃ a : Call, cs = a.vals ∧ a.good := by
  have hl : cs.length = 24 := (len_of Try.underlying89 h).trans (by kernel_rfl)
  obtain ⟨z0, h0, g0⟩ := int_field Try.underlying89 h 0 0 _ rfl (e := 3) rfl rfl (by kernel_rfl) Try.underlying3
  obtain ⟨z1, h1, g1⟩ := string_field Try.underlying89 h 1 1 _ rfl (e := 9) rfl rfl (by kernel_rfl) Try.underlying9
  obtain ⟨z2, h2, g2⟩ := string_field Try.underlying89 h 2 2 _ rfl (e := 9) rfl rfl (by kernel_rfl) Try.underlying9
  obtain ⟨z3, h3, g3⟩ := string_field Try.underlying89 h 3 3 _ rfl (e := 9) rfl rfl (by kernel_rfl) Try.underlying9
  obtain ⟨z4, h4, g4⟩ := string_field Try.underlying89 h 4 4 _ rfl (e := 9) rfl rfl (by kernel_rfl) Try.underlying9
  obtain ⟨z5, h5, g5⟩ := int_field Try.underlying89 h 5 5 _ rfl (e := 3) rfl rfl (by kernel_rfl) Try.underlying3
  obtain ⟨z6, h6, g6⟩ := int_field Try.underlying89 h 6 6 _ rfl (e := 3) rfl rfl (by kernel_rfl) Try.underlying3
  obtain ⟨z7, h7, g7⟩ := int_field Try.underlying89 h 7 7 _ rfl (e := 3) rfl rfl (by kernel_rfl) Try.underlying3
  obtain ⟨z8, h8, g8⟩ := string_field Try.underlying89 h 8 8 _ rfl (e := 9) rfl rfl (by kernel_rfl) Try.underlying9
  obtain ⟨ps9, m9, y9, h9, hs9⟩ := sub_field Try.underlying89 h 9 9 10 _ rfl (e := 87) rfl rfl (by kernel_rfl)
  obtain ⟨z9, rfl, g9⟩ := open_Sett hs9
  obtain ⟨ps10, m10, y10, h10, hs10⟩ := sub_field Try.underlying89 h 10 19 2 _ rfl (e := 53) rfl rfl (by kernel_rfl)
  obtain ⟨z10, rfl, g10⟩ := open_Opt hs10
  obtain ⟨z11, h11, g11⟩ := int_field Try.underlying89 h 11 21 _ rfl (e := 3) rfl rfl (by kernel_rfl) Try.underlying3
  obtain ⟨z12, h12, g12⟩ := int_field Try.underlying89 h 12 22 _ rfl (e := 3) rfl rfl (by kernel_rfl) Try.underlying3
  obtain ⟨z13, h13, g13⟩ := string_field Try.underlying89 h 13 23 _ rfl (e := 9) rfl rfl (by kernel_rfl) Try.underlying9
  have hend : cs.drop 24 = [] := List.drop_of_length_le (by omega)
  have e : cs = cs.drop 0 := rfl
  simp only [Nat.reduceAdd] at h0 h1 h2 h3 h4 h5 h6 h7 h8 h9 h10 h11 h12 h13
  refine ⟨⟨z0, z1.data.toList, z2.data.toList, z3.data.toList, z4.data.toList, z5, z6, z7, z8.data.toList, z9, z10, z11, z12, z13.data.toList⟩, e.trans ?_, ⟨g0, by simpa using g1, by simpa using g2, by simpa using g3, by simpa using g4, g5, g6, g7, by simpa using g8, g9, g10, g11, g12, by simpa using g13⟩⟩
  rw [h0, h1, h2, h3, h4, h5, h6, h7, h8, h9, h10, h11, h12, h13, hend]
  simp only [Call.vals, bs_list]
  rfl

instance : Inhabited Held := ⟨⟨0, 0, []⟩⟩
instance : Inhabited Cached := ⟨⟨[], ⟨0, 0, 0, 0, 0, 0, 0, 0, 0, 0⟩⟩⟩
instance : Inhabited Known := ⟨⟨[], [], []⟩⟩
instance : Inhabited Placed := ⟨⟨[], 0, 0⟩⟩
instance : Inhabited Change := ⟨⟨0, 0, 0, [], [], [], ⟨0, 0, 0, 0, 0, 0, 0, 0, 0, 0⟩, 0, 0⟩⟩
instance : Inhabited Entry := ⟨⟨0, [], 0, ⟨false, ⟨0, 0, 0, 0, 0, 0, 0, 0, 0, 0⟩⟩, []⟩⟩

/-- a cache: the slices' headers, and what is in them -/
structure Cch where
  ha : Option Addr
  hc : Nat
  hs : List Held
  fa : Option Addr
  fc : Nat
  fs : List Cached
  na : Option Addr
  nc : Nat
  ns : List Known
  ba : Option Addr
  bc : Nat
  bl : List Placed
def Cch.vals (x : Cch) : List Value := [.slice x.ha x.hs.length x.hc, .slice x.fa x.fs.length x.fc, .slice x.na x.ns.length x.nc, .slice x.ba x.bl.length x.bc]
def Cch.sized (x : Cch) : Prop := x.hs.length ≤ maxLen ∧ x.fs.length ≤ maxLen ∧ x.ns.length ≤ maxLen ∧ x.bl.length ≤ maxLen
/-- what lies in memory of a cache -/
structure Cch.There (x : Cch) (w : World) : Prop where
  h : At w 3 x.ha (x.hs.map Held.vals)
  f : At w 11 x.fa (x.fs.map Cached.vals)
  n : At w 3 x.na (x.ns.map Known.vals)
  b : At w 3 x.ba (x.bl.map Placed.vals)
theorem Cch.There.below {c : Cch} {w w' : World} (h : c.There w) (hb : Below w.heap.size w w') : c.There w' := ⟨h.h.below hb, h.f.below hb, h.n.below hb, h.b.below hb⟩
theorem open_cache (hlt : ∀ p ∈ x.2, p.block < w.heap.size) (h : DataW.trod enc Try.prog w base spare held fuel 27 cs = some x) :
    ∃ t : Cch, cs = t.vals ∧ t.sized ∧ t.There w := by
  have hl : cs.length = 4 := (len_of Try.underlying27 h).trans (by kernel_rfl)
  obtain ⟨A0, n0, c0, m0, y0, h0, hn0, hs0, hy0⟩ := slice_field_places Try.underlying27 h 0 0 _ rfl (e := 22) rfl rfl (by kernel_rfl) Try.underlying22
  obtain ⟨l0, rfl, hA0, hg0⟩ := rows_of (α := Held) (sz := 3) Try.underlying22 (by kernel_rfl) (by omega) Held.vals Held.good (fun p hp => hlt p (hy0 p hp)) (fun _ _ _ _ ht => open_Held ht) hs0
  obtain ⟨A1, n1, c1, m1, y1, h1, hn1, hs1, hy1⟩ := slice_field_places Try.underlying27 h 1 1 _ rfl (e := 23) rfl rfl (by kernel_rfl) Try.underlying23
  obtain ⟨l1, rfl, hA1, hg1⟩ := rows_of (α := Cached) (sz := 11) Try.underlying23 (by kernel_rfl) (by omega) Cached.vals Cached.good (fun p hp => hlt p (hy1 p hp)) (fun _ _ _ _ ht => open_Cached ht) hs1
  obtain ⟨A2, n2, c2, m2, y2, h2, hn2, hs2, hy2⟩ := slice_field_places Try.underlying27 h 2 2 _ rfl (e := 24) rfl rfl (by kernel_rfl) Try.underlying24
  obtain ⟨l2, rfl, hA2, hg2⟩ := rows_of (α := Known) (sz := 3) Try.underlying24 (by kernel_rfl) (by omega) Known.vals Known.good (fun p hp => hlt p (hy2 p hp)) (fun _ _ _ _ ht => open_Known ht) hs2
  obtain ⟨A3, n3, c3, m3, y3, h3, hn3, hs3, hy3⟩ := slice_field_places Try.underlying27 h 3 3 _ rfl (e := 25) rfl rfl (by kernel_rfl) Try.underlying25
  obtain ⟨l3, rfl, hA3, hg3⟩ := rows_of (α := Placed) (sz := 3) Try.underlying25 (by kernel_rfl) (by omega) Placed.vals Placed.good (fun p hp => hlt p (hy3 p hp)) (fun _ _ _ _ ht => open_Placed ht) hs3
  have hend : cs.drop 4 = [] := List.drop_of_length_le (by omega)
  have e : cs = cs.drop 0 := rfl
  simp only [Nat.reduceAdd] at h0 h1 h2 h3
  refine ⟨⟨A0, c0, l0, A1, c1, l1, A2, c2, l2, A3, c3, l3⟩, e.trans ?_, ⟨hn0, hn1, hn2, hn3⟩, ⟨hA0, hA1, hA2, hA3⟩⟩
  rw [h0, h1, h2, h3, hend]; rfl
/-- changes that came in -/
theorem open_changes (hlt : ∀ p ∈ x.2, p.block < w.heap.size) {A : Option Addr} {n c : Nat} (h : DataW.trod enc Try.prog w base spare held fuel 30 [.slice A n c] = some x) :
    ∃ l : List Change, n = l.length ∧ n ≤ maxLen ∧ At w 18 A (l.map Change.vals) ∧ ∀ t ∈ l, t.good := by
  obtain ⟨l, hn, hA, hg⟩ := rows_of (α := Change) (sz := 18) Try.underlying30 (by kernel_rfl) (by omega) Change.vals Change.good hlt (fun _ _ _ _ ht => open_Change ht) h
  exact ⟨l, hn, slice_len Try.underlying30 h, hA, hg⟩
/-- entries that came in -/
theorem open_entries (hlt : ∀ p ∈ x.2, p.block < w.heap.size) {A : Option Addr} {n c : Nat} (h : DataW.trod enc Try.prog w base spare held fuel 33 [.slice A n c] = some x) :
    ∃ l : List Entry, n = l.length ∧ n ≤ maxLen ∧ At w 15 A (l.map Entry.vals) ∧ ∀ t ∈ l, t.good := by
  obtain ⟨l, hn, hA, hg⟩ := rows_of (α := Entry) (sz := 15) Try.underlying33 (by kernel_rfl) (by omega) Entry.vals Entry.good hlt (fun _ _ _ _ ht => open_Entry ht) h
  exact ⟨l, hn, slice_len Try.underlying33 h, hA, hg⟩
end
end Go.Proofs.Ytjepemfllgjhfaa

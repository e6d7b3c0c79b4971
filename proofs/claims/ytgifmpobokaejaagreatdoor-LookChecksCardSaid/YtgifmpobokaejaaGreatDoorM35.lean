/-
  How attributes, nodes, limits and a tree that came in are read. No condition.
-/
import Derived.Test.YtgifmpobokaejaaGreatDoorProg
import Derived.Test.YtgifmpobokaejaaGreatDoorM11
import Derived.Test.YtgifmpobokaejaaGreatDoorM10
namespace Go.Proofs.YtgifmpobokaejaaGreatDoor
open Go.ChangeShapes Go.WideShapes Go.ChangeAt Go.RowKit Go.Deep
section
variable {H : Type} {enc : TypeId × Value → H} {w : World} {base : Nat} {spare : Nat → Bool} {held : Bool} {fuel : Nat} {cs : List Value} {x : DataW H × List MemPlace}

theorem open_Lim (h : DataW.trod enc Tryz.prog w base spare held fuel 23 cs = some x) : ∃ a : Lim, cs = a.vals ∧ a.good := by
  have hl : cs.length = 3 := (len_of Tryz.underlying23 h).trans (by kernel_rfl)
  obtain ⟨z0, h0, g0⟩ := int_field Tryz.underlying23 h 0 0 _ rfl (e := 3) rfl rfl (by kernel_rfl) Tryz.underlying3
  obtain ⟨z1, h1, g1⟩ := int_field Tryz.underlying23 h 1 1 _ rfl (e := 3) rfl rfl (by kernel_rfl) Tryz.underlying3
  obtain ⟨z2, h2, g2⟩ := int_field Tryz.underlying23 h 2 2 _ rfl (e := 3) rfl rfl (by kernel_rfl) Tryz.underlying3
  have hend : cs.drop 3 = [] := List.drop_of_length_le (by omega)
  have e : cs = cs.drop 0 := rfl
  simp only [Nat.reduceAdd] at h0 h1 h2
  refine ⟨⟨z0, z1, z2⟩, e.trans ?_, ⟨g0, g1, g2⟩⟩
  rw [h0, h1, h2, hend]
  rfl

theorem open_Nd (h : DataW.trod enc Tryz.prog w base spare held fuel 65 cs = some x) : ∃ a : Nd, cs = a.vals ∧ a.good := by
  have hl : cs.length = 15 := (len_of Tryz.underlying65 h).trans (by kernel_rfl)
  obtain ⟨ps0, m0, y0, h0, hs0⟩ := sub_field Tryz.underlying65 h 0 0 10 _ rfl (e := 40) rfl rfl (by kernel_rfl)
  obtain ⟨z0, rfl, g0⟩ := open_Attr hs0
  obtain ⟨z1, h1, g1⟩ := string_field Tryz.underlying65 h 1 10 _ rfl (e := 9) rfl rfl (by kernel_rfl) Tryz.underlying9
  obtain ⟨z2, h2, g2⟩ := int_field Tryz.underlying65 h 2 11 _ rfl (e := 3) rfl rfl (by kernel_rfl) Tryz.underlying3
  obtain ⟨z3, h3, g3⟩ := int_field Tryz.underlying65 h 3 12 _ rfl (e := 3) rfl rfl (by kernel_rfl) Tryz.underlying3
  obtain ⟨z4, h4, g4⟩ := int_field Tryz.underlying65 h 4 13 _ rfl (e := 3) rfl rfl (by kernel_rfl) Tryz.underlying3
  obtain ⟨za5, zn5, zc5, m5, y5, h5, g5, hs5⟩ := slice_field Tryz.underlying65 h 5 14 _ rfl (e := 45) rfl rfl (by kernel_rfl) Tryz.underlying45
  have hend : cs.drop 15 = [] := List.drop_of_length_le (by omega)
  have e : cs = cs.drop 0 := rfl
  simp only [Nat.reduceAdd] at h0 h1 h2 h3 h4 h5
  refine ⟨⟨z0, z1, z2, z3, z4, za5, zn5, zc5⟩, e.trans ?_, ⟨g0, g1, g2, g3, g4, g5⟩⟩
  rw [h0, h1, h2, h3, h4, h5, hend]
  rfl


instance : Inhabited Nd := ⟨⟨⟨0, 0, 0, 0, 0, 0, 0, 0, 0, 0⟩, ⟨#[]⟩, 0, 0, 0, none, 0, 0⟩⟩

theorem open_tree (hlt : ∀ p ∈ x.2, p.block < w.heap.size) (h : DataW.trod enc Tryz.prog w base spare held fuel 26 cs = some x) :
    ∃ t : Tr, cs = t.vals ∧ sized t.ns ∧ At w 15 t.na (t.ns.map Nd.vals) := by
  have hl : cs.length = 6 := (len_of Tryz.underlying26 h).trans (by kernel_rfl)
  obtain ⟨ps0, m0, y0, h0, hs0⟩ := sub_field Tryz.underlying26 h 0 0 3 _ rfl (e := 23) rfl rfl (by kernel_rfl)
  obtain ⟨z0, rfl, _⟩ := open_Lim hs0
  obtain ⟨z1, h1, _⟩ := int_field Tryz.underlying26 h 1 3 _ rfl (e := 3) rfl rfl (by kernel_rfl) Tryz.underlying3
  obtain ⟨z2, h2, _⟩ := int_field Tryz.underlying26 h 2 4 _ rfl (e := 3) rfl rfl (by kernel_rfl) Tryz.underlying3
  obtain ⟨A, n, c, m, y, h3, hn, hs, hy⟩ := slice_field_places Tryz.underlying26 h 3 5 _ rfl (e := 24) rfl rfl (by kernel_rfl) Tryz.underlying24
  obtain ⟨ns, rfl, hA, hg⟩ := rows_of (α := Nd) (sz := 15) Tryz.underlying24 (by kernel_rfl) (by omega) Nd.vals Nd.good (fun p hp => hlt p (hy p hp)) (fun _ _ _ _ ht => open_Nd ht) hs
  have hend : cs.drop 6 = [] := List.drop_of_length_le (by omega)
  have e : cs = cs.drop 0 := rfl
  simp only [Nat.reduceAdd] at h0 h1 h2 h3
  refine ⟨⟨z0, z1, z2, A, c, ns⟩, e.trans ?_, ⟨hn, fun nd hnd => ?_⟩, hA⟩
  · rw [h0, h1, h2, h3, hend]; rfl
  · exact ⟨(hg nd hnd).2.1, (hg nd hnd).2.2.2.2.2⟩
end
end Go.Proofs.YtgifmpobokaejaaGreatDoor

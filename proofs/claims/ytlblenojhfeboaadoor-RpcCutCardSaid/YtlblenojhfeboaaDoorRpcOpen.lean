/-
  How messages that came in are read (written by wip/tools/structs.py). No condition.
-/
import Derived.Test.YtlblenojhfeboaaDoorProg
import Derived.Test.YtlblenojhfeboaaDoorApiWire
import Derived.Test.YtlblenojhfeboaaDoorOpen
namespace Go.Proofs.YtlblenojhfeboaaDoor
open Go.ChangeShapes Go.WideShapes Go.ChangeAt Go.RowKit Go.Deep
section
variable {H : Type} {enc : TypeId × Value → H} {w : World} {base : Nat} {spare : Nat → Bool} {held : Bool} {fuel : Nat} {cs : List Value} {x : DataW H × List MemPlace}

theorem open_Cred (h : DataW.trod enc Tryd.prog w base spare held fuel 40 cs = some x) : ∃ a : Cred, cs = a.vals ∧ a.good := by
  have hl : cs.length = 4 := (len_of Tryd.underlying40 h).trans (by kernel_rfl)
  obtain ⟨z0, h0, g0⟩ := int_field Tryd.underlying40 h 0 0 _ rfl (e := 3) rfl rfl (by kernel_rfl) Tryd.underlying3
  obtain ⟨z1, h1, g1⟩ := int_field Tryd.underlying40 h 1 1 _ rfl (e := 3) rfl rfl (by kernel_rfl) Tryd.underlying3
  obtain ⟨z2, h2, g2⟩ := int_field Tryd.underlying40 h 2 2 _ rfl (e := 3) rfl rfl (by kernel_rfl) Tryd.underlying3
  obtain ⟨z3, h3, g3⟩ := int_field Tryd.underlying40 h 3 3 _ rfl (e := 3) rfl rfl (by kernel_rfl) Tryd.underlying3
  have hend : cs.drop 4 = [] := List.drop_of_length_le (by omega)
  have e : cs = cs.drop 0 := rfl
  simp only [Nat.reduceAdd] at h0 h1 h2 h3
  refine ⟨⟨z0, z1, z2, z3⟩, e.trans ?_, ⟨g0, g1, g2, g3⟩⟩
  rw [h0, h1, h2, h3, hend]
  rfl

theorem open_Message (h : DataW.trod enc Tryd.prog w base spare held fuel 42 cs = some x) : ∃ a : Message, cs = a.vals ∧ a.good := by
  have hl : cs.length = 10 := (len_of Tryd.underlying42 h).trans (by kernel_rfl)
  obtain ⟨z0, h0, g0⟩ := int_field Tryd.underlying42 h 0 0 _ rfl (e := 3) rfl rfl (by kernel_rfl) Tryd.underlying3
  obtain ⟨z1, h1⟩ := bool_field Tryd.underlying42 h 1 1 _ rfl (e := 4) rfl rfl (by kernel_rfl) Tryd.underlying4
  obtain ⟨z2, h2⟩ := bool_field Tryd.underlying42 h 2 2 _ rfl (e := 4) rfl rfl (by kernel_rfl) Tryd.underlying4
  obtain ⟨z3, h3, g3⟩ := int_field Tryd.underlying42 h 3 3 _ rfl (e := 3) rfl rfl (by kernel_rfl) Tryd.underlying3
  obtain ⟨ps4, m4, y4, h4, hs4⟩ := sub_field Tryd.underlying42 h 4 4 4 _ rfl (e := 40) rfl rfl (by kernel_rfl)
  obtain ⟨z4, rfl, g4⟩ := open_Cred hs4
  obtain ⟨z5, h5, g5⟩ := int_field Tryd.underlying42 h 5 8 _ rfl (e := 3) rfl rfl (by kernel_rfl) Tryd.underlying3
  obtain ⟨z6, h6, g6⟩ := string_field Tryd.underlying42 h 6 9 _ rfl (e := 9) rfl rfl (by kernel_rfl) Tryd.underlying9
  have hend : cs.drop 10 = [] := List.drop_of_length_le (by omega)
  have e : cs = cs.drop 0 := rfl
  simp only [Nat.reduceAdd] at h0 h1 h2 h3 h4 h5 h6
  refine ⟨⟨z0, z1, z2, z3, z4, z5, z6.data.toList⟩, e.trans ?_, ⟨g0, g3, g4, g5, by simpa using g6⟩⟩
  rw [h0, h1, h2, h3, h4, h5, h6, hend]
  simp only [Message.vals, bs_list]
  rfl

end
end Go.Proofs.YtlblenojhfeboaaDoor

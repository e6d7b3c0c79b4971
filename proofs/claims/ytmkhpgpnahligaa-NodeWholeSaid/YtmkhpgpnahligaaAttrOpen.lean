/-
  How attributes, and what is to be set, that came in are read (written by wip/tools/structs.py). No condition.
-/
import Derived.Test.YtmkhpgpnahligaaProg
import Derived.Test.YtmkhpgpnahligaaApiAttr
import Derived.Test.YtmkhpgpnahligaaOpen
namespace Go.Proofs.Ytmkhpgpnahligaa
open Go.ChangeShapes Go.WideShapes Go.ChangeAt Go.RowKit Go.Deep
section
variable {H : Type} {enc : TypeId × Value → H} {w : World} {base : Nat} {spare : Nat → Bool} {held : Bool} {fuel : Nat} {cs : List Value} {x : DataW H × List MemPlace}

theorem open_Attr (h : DataW.trod enc Try.prog w base spare held fuel 31 cs = some x) : ∃ a : Attr, cs = a.vals ∧ a.good := by
  have hl : cs.length = 10 := (len_of Try.underlying31 h).trans (by kernel_rfl)
  obtain ⟨z0, h0, g0⟩ := int_field Try.underlying31 h 0 0 _ rfl (e := 3) rfl rfl (by kernel_rfl) Try.underlying3
  obtain ⟨z1, h1, g1⟩ := int_field Try.underlying31 h 1 1 _ rfl (e := 3) rfl rfl (by kernel_rfl) Try.underlying3
  obtain ⟨z2, h2, g2⟩ := int_field Try.underlying31 h 2 2 _ rfl (e := 3) rfl rfl (by kernel_rfl) Try.underlying3
  obtain ⟨z3, h3, g3⟩ := int_field Try.underlying31 h 3 3 _ rfl (e := 3) rfl rfl (by kernel_rfl) Try.underlying3
  obtain ⟨z4, h4, g4⟩ := int_field Try.underlying31 h 4 4 _ rfl (e := 3) rfl rfl (by kernel_rfl) Try.underlying3
  obtain ⟨z5, h5, g5⟩ := int_field Try.underlying31 h 5 5 _ rfl (e := 3) rfl rfl (by kernel_rfl) Try.underlying3
  obtain ⟨z6, h6, g6⟩ := int_field Try.underlying31 h 6 6 _ rfl (e := 3) rfl rfl (by kernel_rfl) Try.underlying3
  obtain ⟨z7, h7, g7⟩ := int_field Try.underlying31 h 7 7 _ rfl (e := 3) rfl rfl (by kernel_rfl) Try.underlying3
  obtain ⟨z8, h8, g8⟩ := int_field Try.underlying31 h 8 8 _ rfl (e := 3) rfl rfl (by kernel_rfl) Try.underlying3
  obtain ⟨z9, h9, g9⟩ := int_field Try.underlying31 h 9 9 _ rfl (e := 3) rfl rfl (by kernel_rfl) Try.underlying3
  have hend : cs.drop 10 = [] := List.drop_of_length_le (by omega)
  have e : cs = cs.drop 0 := rfl
  simp only [Nat.reduceAdd] at h0 h1 h2 h3 h4 h5 h6 h7 h8 h9
  refine ⟨⟨z0, z1, z2, z3, z4, z5, z6, z7, z8, z9⟩, e.trans ?_, ⟨g0, g1, g2, g3, g4, g5, g6, g7, g8, g9⟩⟩
  rw [h0, h1, h2, h3, h4, h5, h6, h7, h8, h9, hend]
  rfl

theorem open_Opt (h : DataW.trod enc Try.prog w base spare held fuel 41 cs = some x) : ∃ a : Opt, cs = a.vals ∧ a.good := by
  have hl : cs.length = 2 := (len_of Try.underlying41 h).trans (by kernel_rfl)
  obtain ⟨z0, h0⟩ := bool_field Try.underlying41 h 0 0 _ rfl (e := 4) rfl rfl (by kernel_rfl) Try.underlying4
  obtain ⟨z1, h1, g1⟩ := int_field Try.underlying41 h 1 1 _ rfl (e := 3) rfl rfl (by kernel_rfl) Try.underlying3
  have hend : cs.drop 2 = [] := List.drop_of_length_le (by omega)
  have e : cs = cs.drop 0 := rfl
  simp only [Nat.reduceAdd] at h0 h1
  refine ⟨⟨z0, z1⟩, e.trans ?_, g1⟩
  rw [h0, h1, hend]
  rfl

theorem open_Post (h : DataW.trod enc Try.prog w base spare held fuel 33 cs = some x) : ∃ a : Post, cs = a.vals ∧ a.good := by
  have hl : cs.length = 11 := (len_of Try.underlying33 h).trans (by kernel_rfl)
  obtain ⟨z0, h0⟩ := bool_field Try.underlying33 h 0 0 _ rfl (e := 4) rfl rfl (by kernel_rfl) Try.underlying4
  obtain ⟨ps1, m1, y1, h1, hs1⟩ := sub_field Try.underlying33 h 1 1 10 _ rfl (e := 31) rfl rfl (by kernel_rfl)
  obtain ⟨z1, rfl, g1⟩ := open_Attr hs1
  have hend : cs.drop 11 = [] := List.drop_of_length_le (by omega)
  have e : cs = cs.drop 0 := rfl
  simp only [Nat.reduceAdd] at h0 h1
  refine ⟨⟨z0, z1⟩, e.trans ?_, g1⟩
  rw [h0, h1, hend]
  rfl

theorem open_Wcc (h : DataW.trod enc Try.prog w base spare held fuel 43 cs = some x) : ∃ a : Wcc, cs = a.vals ∧ a.good := by
  have hl : cs.length = 13 := (len_of Try.underlying43 h).trans (by kernel_rfl)
  obtain ⟨ps0, m0, y0, h0, hs0⟩ := sub_field Try.underlying43 h 0 0 2 _ rfl (e := 41) rfl rfl (by kernel_rfl)
  obtain ⟨z0, rfl, g0⟩ := open_Opt hs0
  obtain ⟨ps1, m1, y1, h1, hs1⟩ := sub_field Try.underlying43 h 1 2 11 _ rfl (e := 33) rfl rfl (by kernel_rfl)
  obtain ⟨z1, rfl, g1⟩ := open_Post hs1
  have hend : cs.drop 13 = [] := List.drop_of_length_le (by omega)
  have e : cs = cs.drop 0 := rfl
  simp only [Nat.reduceAdd] at h0 h1
  refine ⟨⟨z0, z1⟩, e.trans ?_, ⟨g0, g1⟩⟩
  rw [h0, h1, hend]
  rfl

end
end Go.Proofs.Ytmkhpgpnahligaa

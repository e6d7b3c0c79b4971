/-
  How results that came in are read. No condition.
-/
import Derived.Test.YtfjflkmhhbhceaaGreatDoorK19
import Derived.Test.YtfjflkmhhbhceaaGreatDoorK22
namespace Go.Proofs.YtfjflkmhhbhceaaGreatDoor
open Go.ChangeShapes Go.WideShapes Go.ChangeAt Go.RowKit Go.Deep
section
variable {H : Type} {enc : TypeId × Value → H} {w : World} {base : Nat} {spare : Nat → Bool} {held : Bool} {fuel : Nat} {cs : List Value} {x : DataW H × List MemPlace}
instance : Inhabited Entry := ⟨⟨0, [], 0, postZ8, []⟩⟩
theorem open_int1 (h : DataW.trod enc Tryz.prog w base spare held fuel 3 cs = some x) : ∃ a : Int, cs = int1 a ∧ True := by
  obtain ⟨z, hz, _, _⟩ := DataW.trod_int Tryz.underlying3 h
  exact ⟨z, hz, trivial⟩
def RepL.vals (x : RepL) : List Value := x.r.vals
theorem open_reply (hlt : ∀ p ∈ x.2, p.block < w.heap.size) (h : DataW.trod enc Tryz.prog w base spare held fuel 51 cs = some x) :
    ∃ t : RepL, cs = t.vals ∧ True ∧ t.There w := by
  have hl : cs.length = 58 := (len_of Tryz.underlying51 h).trans (by kernel_rfl)
  obtain ⟨z0, h0, g0⟩ := int_field Tryz.underlying51 h 0 0 _ rfl (e := 41) rfl rfl (by kernel_rfl) Tryz.underlying41
  obtain ⟨z1, h1, g1⟩ := string_field Tryz.underlying51 h 1 1 _ rfl (e := 9) rfl rfl (by kernel_rfl) Tryz.underlying9
  obtain ⟨ps2, m2, y2, h2, hs2⟩ := sub_field Tryz.underlying51 h 2 2 11 _ rfl (e := 45) rfl rfl (by kernel_rfl)
  obtain ⟨z2, rfl, g2⟩ := open_Post hs2
  obtain ⟨ps3, m3, y3, h3, hs3⟩ := sub_field Tryz.underlying51 h 3 13 11 _ rfl (e := 45) rfl rfl (by kernel_rfl)
  obtain ⟨z3, rfl, g3⟩ := open_Post hs3
  obtain ⟨ps4, m4, y4, h4, hs4⟩ := sub_field Tryz.underlying51 h 4 24 13 _ rfl (e := 47) rfl rfl (by kernel_rfl)
  obtain ⟨z4, rfl, g4⟩ := open_Wcc hs4
  obtain ⟨ps5, m5, y5, h5, hs5⟩ := sub_field Tryz.underlying51 h 5 37 13 _ rfl (e := 47) rfl rfl (by kernel_rfl)
  obtain ⟨z5, rfl, g5⟩ := open_Wcc hs5
  obtain ⟨z6, h6, g6⟩ := int_field Tryz.underlying51 h 6 50 _ rfl (e := 3) rfl rfl (by kernel_rfl) Tryz.underlying3
  obtain ⟨z7, h7, g7⟩ := int_field Tryz.underlying51 h 7 51 _ rfl (e := 3) rfl rfl (by kernel_rfl) Tryz.underlying3
  obtain ⟨z8, h8⟩ := bool_field Tryz.underlying51 h 8 52 _ rfl (e := 4) rfl rfl (by kernel_rfl) Tryz.underlying4
  obtain ⟨z9, h9, g9⟩ := string_field Tryz.underlying51 h 9 53 _ rfl (e := 9) rfl rfl (by kernel_rfl) Tryz.underlying9
  obtain ⟨z10, h10, g10⟩ := int_field Tryz.underlying51 h 10 54 _ rfl (e := 3) rfl rfl (by kernel_rfl) Tryz.underlying3
  obtain ⟨z11, h11, g11⟩ := int_field Tryz.underlying51 h 11 55 _ rfl (e := 3) rfl rfl (by kernel_rfl) Tryz.underlying3
  obtain ⟨A0, n0, c0, m12, y12, h12, hn0, hs12, hy0⟩ := slice_field_places Tryz.underlying51 h 12 56 _ rfl (e := 48) rfl rfl (by kernel_rfl) Tryz.underlying48
  obtain ⟨l0, rfl, hA0, hg0⟩ := rows_of (α := Entry) (sz := 15) Tryz.underlying48 (by kernel_rfl) (by omega) Entry.vals Entry.good (fun p hp => hlt p (hy0 p hp)) (fun _ _ _ _ ht => open_Entry ht) hs12
  obtain ⟨A1, n1, c1, m13, y13, h13, hn1, hs13, hy1⟩ := slice_field_places Tryz.underlying51 h 13 57 _ rfl (e := 49) rfl rfl (by kernel_rfl) Tryz.underlying49
  obtain ⟨l1, rfl, hA1, hg1⟩ := rows_of (α := Int) (sz := 1) Tryz.underlying49 (by kernel_rfl) (by omega) int1 (fun _ => True) (fun p hp => hlt p (hy1 p hp)) (fun _ _ _ _ ht => open_int1 ht) hs13
  have hend : cs.drop 58 = [] := List.drop_of_length_le (by omega)
  have e : cs = cs.drop 0 := rfl
  simp only [Nat.reduceAdd] at h0 h1 h2 h3 h4 h5 h6 h7 h8 h9 h10 h11 h12 h13
  unfold maxLen at hn0 hn1
  refine ⟨⟨⟨z0, z1.data.toList, z2, z3, z4, z5, z6, z7, z8, z9.data.toList, z10, z11, A0, l0.length, c0, A1, l1.length, c1⟩, l0, l1⟩, e.trans ?_, trivial, ⟨rfl, rfl, by omega, by omega, hA0, hA1⟩⟩
  rw [h0, h1, h2, h3, h4, h5, h6, h7, h8, h9, h10, h11, h12, h13, hend]
  simp only [RepL.vals, Reply.vals, bs_list]
  rfl
end
end Go.Proofs.YtfjflkmhhbhceaaGreatDoor

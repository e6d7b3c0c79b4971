/-
  How a thing, and a row of things, that came in are read. No condition.
-/
import Derived.Test.YtolcecpmiepggaaDoorProg
import Derived.Test.YtolcecpmiepggaaDoorXdrThing
import Derived.Test.YtolcecpmiepggaaDoorOpen
namespace Go.Proofs.YtolcecpmiepggaaDoor
open Go.ChangeShapes Go.WideShapes Go.ChangeAt Go.RowKit Go.Deep
section
variable {H : Type} {enc : TypeId × Value → H} {w : World} {base : Nat} {spare : Nat → Bool} {held : Bool} {fuel : Nat} {cs : List Value} {x : DataW H × List MemPlace}

theorem open_Thing (h : DataW.trod enc Tryd.prog w base spare held fuel 43 cs = some x) : ∃ a : Thing, cs = a.vals ∧ a.good := by
  have hl : cs.length = 4 := (len_of Tryd.underlying43 h).trans (by kernel_rfl)
  obtain ⟨z0, h0, g0⟩ := int_field Tryd.underlying43 h 0 0 _ rfl (e := 3) rfl rfl (by kernel_rfl) Tryd.underlying3
  obtain ⟨z1, h1, g1⟩ := int_field Tryd.underlying43 h 1 1 _ rfl (e := 3) rfl rfl (by kernel_rfl) Tryd.underlying3
  obtain ⟨z2, h2⟩ := bool_field Tryd.underlying43 h 2 2 _ rfl (e := 4) rfl rfl (by kernel_rfl) Tryd.underlying4
  obtain ⟨z3, h3, g3⟩ := string_field Tryd.underlying43 h 3 3 _ rfl (e := 9) rfl rfl (by kernel_rfl) Tryd.underlying9
  have hend : cs.drop 4 = [] := List.drop_of_length_le (by omega)
  have e : cs = cs.drop 0 := rfl
  simp only [Nat.reduceAdd] at h0 h1 h2 h3
  refine ⟨⟨z0, z1, z2, z3.data.toList⟩, e.trans ?_, ⟨g0, g1, by simpa using g3⟩⟩
  rw [h0, h1, h2, h3, hend]
  unfold Thing.vals
  rw [bs_list]

/-- a slice of things -/
theorem open_things (hlt : ∀ p ∈ x.2, p.block < w.heap.size) {A : Option Addr} {n c : Nat} (h : DataW.trod enc Tryd.prog w base spare held fuel 49 [.slice A n c] = some x) :
    ∃ ts : List Thing, n = ts.length ∧ n ≤ maxLen ∧ At w 4 A (ts.map Thing.vals) ∧ ∀ t ∈ ts, t.good := by
  obtain ⟨ts, rfl, hA, hg⟩ := rows_of (α := Thing) (sz := 4) Tryd.underlying49 (by kernel_rfl) (by omega) Thing.vals Thing.good hlt (fun _ _ _ _ ht => open_Thing ht) h
  exact ⟨ts, rfl, slice_len Tryd.underlying49 h, hA, hg⟩
end
end Go.Proofs.YtolcecpmiepggaaDoor

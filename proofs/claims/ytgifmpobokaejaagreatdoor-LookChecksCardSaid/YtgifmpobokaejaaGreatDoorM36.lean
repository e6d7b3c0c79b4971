/-
  How a tree that came in is read, with the entries of each node. No condition.
-/
import Derived.Test.YtgifmpobokaejaaGreatDoorM35
import Derived.Test.YtgifmpobokaejaaGreatDoorM18
namespace Go.Proofs.YtgifmpobokaejaaGreatDoor
open Go.ChangeShapes Go.WideShapes Go.ChangeAt Go.RowKit Go.Deep

/-- each node's entries lie where it says -/
def Ents (w : World) (ps : List (Nd × List Entry)) : Prop := ∀ p ∈ ps, p.1.en = p.2.length ∧ At w 15 p.1.ea (p.2.map Entry.vals)
theorem Ents.below {w w' : World} {ps : List (Nd × List Entry)} (h : Ents w ps) (hb : Below w.heap.size w w') : Ents w' ps := fun p hp => ⟨(h p hp).1, (h p hp).2.below hb⟩
section
variable {H : Type} {enc : TypeId × Value → H} {w : World} {base : Nat} {spare : Nat → Bool} {held : Bool} {fuel : Nat} {cs : List Value} {x : DataW H × List MemPlace}
theorem open_NdE (hlt : ∀ p ∈ x.2, p.block < w.heap.size) (h : DataW.trod enc Tryz.prog w base spare held fuel 65 cs = some x) :
    ∃ a : Nd × List Entry, cs = a.1.vals ∧ a.1.good ∧ a.1.en = a.2.length ∧ At w 15 a.1.ea (a.2.map Entry.vals) ∧ ∀ e ∈ a.2, e.good := by
  obtain ⟨n, rfl, hg⟩ := open_Nd h
  obtain ⟨A, k, c, m, y, h3, hn, hs, hy⟩ := slice_field_places Tryz.underlying65 h 5 14 _ rfl (e := 45) rfl rfl (by kernel_rfl) Tryz.underlying45
  have e3 : n.vals.drop 14 = [.slice n.ea n.en n.ec] := rfl
  rw [e3] at h3
  injection h3 with h3
  injection h3 with h4 h5 h6
  subst h4 h5 h6
  obtain ⟨l, hl, hA, hgl⟩ := rows_of (α := Entry) (sz := 15) Tryz.underlying45 (by kernel_rfl) (by omega) Entry.vals Entry.good (fun p hp => hlt p (hy p hp)) (fun _ _ _ _ ht => open_Entry ht) hs
  exact ⟨(n, l), rfl, hg, hl, hA, hgl⟩
/-- a tree, with its nodes' entries -/
theorem open_deep (hlt : ∀ p ∈ x.2, p.block < w.heap.size) (h : DataW.trod enc Tryz.prog w base spare held fuel 26 cs = some x) :
    ∃ (t : Tr) (ps : List (Nd × List Entry)), cs = t.vals ∧ t.ns = ps.map (·.1) ∧ ps.length ≤ maxLen ∧ At w 15 t.na (t.ns.map Nd.vals) ∧ Ents w ps ∧ ∀ p ∈ ps, p.1.good ∧ ∀ e ∈ p.2, e.good := by
  have hl : cs.length = 6 := (len_of Tryz.underlying26 h).trans (by kernel_rfl)
  obtain ⟨ps0, m0, y0, h0, hs0⟩ := sub_field Tryz.underlying26 h 0 0 3 _ rfl (e := 23) rfl rfl (by kernel_rfl)
  obtain ⟨z0, rfl, _⟩ := open_Lim hs0
  obtain ⟨z1, h1, _⟩ := int_field Tryz.underlying26 h 1 3 _ rfl (e := 3) rfl rfl (by kernel_rfl) Tryz.underlying3
  obtain ⟨z2, h2, _⟩ := int_field Tryz.underlying26 h 2 4 _ rfl (e := 3) rfl rfl (by kernel_rfl) Tryz.underlying3
  obtain ⟨A, n, c, m, y, h3, hn, hs, hy⟩ := slice_field_places Tryz.underlying26 h 3 5 _ rfl (e := 24) rfl rfl (by kernel_rfl) Tryz.underlying24
  obtain ⟨ps, rfl, hA, hg⟩ := rows_of (α := Nd × List Entry) (sz := 15) Tryz.underlying24 (by kernel_rfl) (by omega) (fun p => p.1.vals) (fun a => a.1.good ∧ a.1.en = a.2.length ∧ At w 15 a.1.ea (a.2.map Entry.vals) ∧ ∀ e ∈ a.2, e.good) (fun p hp => hlt p (hy p hp)) (fun _ _ _ hp ht => open_NdE hp ht) hs
  have hend : cs.drop 6 = [] := List.drop_of_length_le (by omega)
  have e : cs = cs.drop 0 := rfl
  simp only [Nat.reduceAdd] at h0 h1 h2 h3
  refine ⟨⟨z0, z1, z2, A, c, ps.map (·.1)⟩, ps, e.trans ?_, rfl, hn, ?_, fun p hp => ⟨(hg p hp).2.1, (hg p hp).2.2.1⟩, fun p hp => ⟨(hg p hp).1, (hg p hp).2.2.2⟩⟩
  · rw [h0, h1, h2, h3, hend]
    show _ = Tr.vals _
    unfold Tr.vals
    simp only [List.length_map]
  · rw [List.map_map]
    exact hA
end
end Go.Proofs.YtgifmpobokaejaaGreatDoor

/-
  Layer 22: how a tree and a caller that came in are opened. No condition.
-/
import Derived.Test.YtgifmpobokaejaaGreatDoorM42
import Derived.Test.YtgifmpobokaejaaGreatDoorM48
import Derived.Test.YtgifmpobokaejaaGreatDoorM36
namespace Go.Proofs.YtgifmpobokaejaaGreatDoor
open Go.ChangeShapes Go.WideShapes Go.ChangeAt Go.RowKit Go.Deep

/-- a tree that came in, as the laws take it -/
structure TreeE where
  t : Tr
  ps : List (Nd × List Entry)
def TreeE.vals (x : TreeE) : List Value := x.t.vals
section
variable {H : Type} {enc : TypeId × Value → H} {w : World} {base : Nat} {spare : Nat → Bool} {held : Bool} {fuel : Nat} {cs : List Value} {x : DataW H × List MemPlace}
theorem open_Cred22 (h : DataW.trod enc Tryz.prog w base spare held fuel 28 cs = some x) : ∃ a : Cred, cs = a.vals ∧ (Lit.int .i64 a.uid).wf = true ∧ (Lit.int .i64 a.gid).wf = true := by
  have hl : cs.length = 4 := (len_of Tryz.underlying28 h).trans (by kernel_rfl)
  obtain ⟨z0, h0, g0⟩ := int_field Tryz.underlying28 h 0 0 _ rfl (e := 3) rfl rfl (by kernel_rfl) Tryz.underlying3
  obtain ⟨z1, h1, g1⟩ := int_field Tryz.underlying28 h 1 1 _ rfl (e := 3) rfl rfl (by kernel_rfl) Tryz.underlying3
  obtain ⟨z2, h2, g2⟩ := int_field Tryz.underlying28 h 2 2 _ rfl (e := 3) rfl rfl (by kernel_rfl) Tryz.underlying3
  obtain ⟨z3, h3, g3⟩ := int_field Tryz.underlying28 h 3 3 _ rfl (e := 3) rfl rfl (by kernel_rfl) Tryz.underlying3
  have hend : cs.drop 4 = [] := List.drop_of_length_le (by omega)
  have e : cs = cs.drop 0 := rfl
  simp only [Nat.reduceAdd] at h0 h1 h2 h3
  refine ⟨⟨z0, z1, z2, z3⟩, e.trans ?_, g2, g3⟩
  rw [h0, h1, h2, h3, hend]
  rfl
theorem open_treeE (hlt : ∀ p ∈ x.2, p.block < w.heap.size) (h : DataW.trod enc Tryz.prog w base spare held fuel 26 cs = some x) : ∃ a : TreeE, cs = a.vals ∧ (∀ p ∈ a.ps, ∀ e ∈ p.2, e.good) ∧ OpenT w a.t a.ps := by
  obtain ⟨t, ps, rfl, h1, h2, h3, h4, h5⟩ := open_deep hlt h
  exact ⟨⟨t, ps⟩, rfl, fun p hp => (h5 p hp).2, ⟨h1, h2, h3, h4, fun p hp => (h5 p hp).1⟩⟩
end
end Go.Proofs.YtgifmpobokaejaaGreatDoor

/-
  How a tree that came in is read, with the entries of each node, and that its slices are no longer than their room. No condition.
-/
namespace Go.Proofs.YtgifmpobokaejaaGreatDoor
open Go.ChangeShapes Go.WideShapes Go.ChangeAt Go.RowKit Go.Deep

section
variable {H : Type} {enc : TypeId × Value → H} {w : World} {base : Nat} {spare : Nat → Bool} {held : Bool} {fuel : Nat} {cs : List Value} {x : DataW H × List MemPlace}
theorem slice_cap {P : Program} {t e : TypeId} {fuel : Nat} {A : Option Addr} {n c : Nat} {y : DataW H × List MemPlace} (ht : P.underlying t = some (.slice e)) (h : DataW.trod enc P w base spare held fuel t [.slice A n c] = some y) : n ≤ c := by
  rcases open_slice ht h with ⟨hcs, _⟩ | ⟨a, len, cap, _, _, _, _, hcs, _, hl, hm, _⟩
  · simp only [List.cons.injEq, Value.slice.injEq, and_true] at hcs
    obtain ⟨rfl, rfl, rfl⟩ := hcs
    exact Nat.le_refl _
  · simp only [List.cons.injEq, Value.slice.injEq, and_true] at hcs
    obtain ⟨rfl, rfl, rfl⟩ := hcs
    exact hl
theorem open_NdC (hlt : ∀ p ∈ x.2, p.block < w.heap.size) (h : DataW.trod enc Tryz.prog w base spare held fuel 65 cs = some x) :
    ∃ a : Nd × List Entry, cs = a.1.vals ∧ a.1.good ∧ a.1.en = a.2.length ∧ At w 15 a.1.ea (a.2.map Entry.vals) ∧ (∀ e ∈ a.2, e.good) ∧ a.2.length ≤ a.1.ec := by
  obtain ⟨n, rfl, hg⟩ := open_Nd h
  obtain ⟨A, k, c, m, y, h3, hn, hs, hy⟩ := slice_field_places Tryz.underlying65 h 5 14 _ rfl (e := 45) rfl rfl (by kernel_rfl) Tryz.underlying45
  have e3 : n.vals.drop 14 = [.slice n.ea n.en n.ec] := rfl
  rw [e3] at h3
  injection h3 with h3
  injection h3 with h4 h5 h6
  subst h4 h5 h6
  obtain ⟨l, hl, hA, hgl⟩ := rows_of (α := Entry) (sz := 15) Tryz.underlying45 (by kernel_rfl) (by omega) Entry.vals Entry.good (fun p hp => hlt p (hy p hp)) (fun _ _ _ _ ht => open_Entry ht) hs
  have hcp := slice_cap Tryz.underlying45 hs
  exact ⟨(n, l), rfl, hg, hl, hA, hgl, by show l.length ≤ n.ec; omega⟩
theorem open_deepC (hlt : ∀ p ∈ x.2, p.block < w.heap.size) (h : DataW.trod enc Tryz.prog w base spare held fuel 26 cs = some x) :
    ∃ (t : Tr) (ps : List (Nd × List Entry)), cs = t.vals ∧ t.ns = ps.map (·.1) ∧ ps.length ≤ maxLen ∧ At w 15 t.na (t.ns.map Nd.vals) ∧ Ents w ps ∧ (∀ p ∈ ps, p.1.good ∧ ∀ e ∈ p.2, e.good) ∧ t.ns.length ≤ t.nc ∧ ∀ p ∈ ps, p.2.length ≤ p.1.ec := by
  have hl : cs.length = 6 := (len_of Tryz.underlying26 h).trans (by kernel_rfl)
  obtain ⟨ps0, m0, y0, h0, hs0⟩ := sub_field Tryz.underlying26 h 0 0 3 _ rfl (e := 23) rfl rfl (by kernel_rfl)
  obtain ⟨z0, rfl, _⟩ := open_Lim hs0
  obtain ⟨z1, h1, _⟩ := int_field Tryz.underlying26 h 1 3 _ rfl (e := 3) rfl rfl (by kernel_rfl) Tryz.underlying3
  obtain ⟨z2, h2, _⟩ := int_field Tryz.underlying26 h 2 4 _ rfl (e := 3) rfl rfl (by kernel_rfl) Tryz.underlying3
  obtain ⟨A, n, c, m, y, h3, hn, hs, hy⟩ := slice_field_places Tryz.underlying26 h 3 5 _ rfl (e := 24) rfl rfl (by kernel_rfl) Tryz.underlying24
  obtain ⟨ps, rfl, hA, hg⟩ := rows_of (α := Nd × List Entry) (sz := 15) Tryz.underlying24 (by kernel_rfl) (by omega) (fun p => p.1.vals) (fun a => a.1.good ∧ a.1.en = a.2.length ∧ At w 15 a.1.ea (a.2.map Entry.vals) ∧ (∀ e ∈ a.2, e.good) ∧ a.2.length ≤ a.1.ec) (fun p hp => hlt p (hy p hp)) (fun _ _ _ hp ht => open_NdC hp ht) hs
  have hcp := slice_cap Tryz.underlying24 hs
  have hend : cs.drop 6 = [] := List.drop_of_length_le (by omega)
  have e : cs = cs.drop 0 := rfl
  simp only [Nat.reduceAdd] at h0 h1 h2 h3
  refine ⟨⟨z0, z1, z2, A, c, ps.map (·.1)⟩, ps, e.trans ?_, rfl, hn, ?_, fun p hp => ⟨(hg p hp).2.1, (hg p hp).2.2.1⟩, fun p hp => ⟨(hg p hp).1, (hg p hp).2.2.2.1⟩, by show List.length (List.map _ _) ≤ c; rw [List.length_map]; exact hcp, fun p hp => (hg p hp).2.2.2.2⟩
  · rw [h0, h1, h2, h3, hend]
    show _ = Tr.vals _
    unfold Tr.vals
    simp only [List.length_map]
  · rw [List.map_map]
    exact hA
theorem open_treeC (hlt : ∀ p ∈ x.2, p.block < w.heap.size) (h : DataW.trod enc Tryz.prog w base spare held fuel 26 cs = some x) : ∃ a : TreeE, cs = a.vals ∧ (a.t.ns.length ≤ a.t.nc ∧ ∀ p ∈ a.ps, p.2.length ≤ p.1.ec) ∧ OpenT w a.t a.ps := by
  obtain ⟨t, ps, rfl, h1, h2, h3, h4, h5, h6, h7⟩ := open_deepC hlt h
  exact ⟨⟨t, ps⟩, rfl, ⟨h6, h7⟩, ⟨h1, h2, h3, h4, fun p hp => (h5 p hp).1⟩⟩
end
end Go.Proofs.YtgifmpobokaejaaGreatDoor

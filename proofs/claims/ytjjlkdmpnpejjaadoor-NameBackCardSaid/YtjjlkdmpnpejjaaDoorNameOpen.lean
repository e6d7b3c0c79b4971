/-
  How a slice of texts that came in is read; the library's own number is some number. No condition.
-/
import Derived.Test.YtjjlkdmpnpejjaaDoorNameWalkJ
import Derived.Test.YtjjlkdmpnpejjaaDoorOpen
import Derived.Shelf.Vars
namespace Go.Proofs.YtjjlkdmpnpejjaaDoor
open Go.ChangeShapes Go.WideShapes Go.ChangeAt Go.RowKit Go.Deep
section
variable {H : Type} {enc : TypeId × Value → H} {w : World} {base : Nat} {spare : Nat → Bool} {held : Bool} {fuel : Nat} {cs : List Value} {x : DataW H × List MemPlace}
theorem open_str (h : DataW.trod enc Tryd.prog w base spare held fuel 9 cs = some x) : ∃ p : List UInt8, cs = str1 p ∧ p.length ≤ maxLen := by
  obtain ⟨z, hz, _, hm⟩ := DataW.trod_string Tryd.underlying9 h
  exact ⟨z.data.toList, by rw [hz, str1, bs_list], by simpa using hm⟩
theorem slice_cap {P : Program} {t e : TypeId} {A : Option Addr} {n c : Nat} {y : DataW H × List MemPlace} (ht : P.underlying t = some (.slice e)) (h : DataW.trod enc P w base spare held fuel t [.slice A n c] = some y) : n ≤ c := by
  rcases open_slice ht h with ⟨hcs, _⟩ | ⟨a, len, cap, _, _, _, _, hcs, _, hl, hm, _⟩
  · simp only [List.cons.injEq, Value.slice.injEq, and_true] at hcs
    obtain ⟨rfl, rfl, rfl⟩ := hcs
    exact Nat.le_refl _
  · simp only [List.cons.injEq, Value.slice.injEq, and_true] at hcs
    obtain ⟨rfl, rfl, rfl⟩ := hcs
    exact hl
theorem open_strs (hlt : ∀ p ∈ x.2, p.block < w.heap.size) {A : Option Addr} {n c : Nat} (h : DataW.trod enc Tryd.prog w base spare held fuel 22 [.slice A n c] = some x) :
    ∃ ps : List (List UInt8), n = ps.length ∧ (n ≤ maxLen ∧ n ≤ c) ∧ At w 1 A (ps.map str1) ∧ ∀ p ∈ ps, p.length ≤ maxLen := by
  obtain ⟨ps, rfl, hA, hg⟩ := rows_of (α := List UInt8) (sz := 1) Tryd.underlying22 (by kernel_rfl) (by omega) str1 (fun p => p.length ≤ maxLen) hlt (fun _ _ _ _ ht => open_str ht) h
  exact ⟨ps, rfl, ⟨slice_len Tryd.underlying22 h, slice_cap Tryd.underlying22 h⟩, hA, hg⟩
end
theorem mxLen_of {W : World} (h : W.ShapedOpen Tryd.prog) : MxLen W :=
  cell_of_shapedOpen_int (g := 0) (t := 3) (zero := #[.int .i64 0]) h (of_decide_eq_true (by kernel_rfl)) (by kernel_rfl) rfl (by kernel_rfl) (by kernel_rfl) Tryd.underlying3
end Go.Proofs.YtjjlkdmpnpejjaaDoor

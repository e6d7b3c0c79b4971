/-
  Layer 1, walks: a reader takes bytes. Conditions: a reader at a block of its own; texts are machine texts.
-/
import Derived.Test.YtmkhpgpnahligaaXdrMem
import Derived.Test.YtmkhpgpnahligaaCells
import Derived.Deep.Light
import Derived.Laws.Bits64b
namespace Go.Proofs.Ytmkhpgpnahligaa
open Go.RowKit
attribute [local go_sem ↓] Go.wp_at_zero Go.wp_at_succ
attribute [local go_sem] rowAt_ptr rowOf_drew rowOf_drewN rowOf_alloc_past rowOf_new
attribute [local go_sem] bs_take bs_drop

theorem Touch.setCell_ {F : Nat → Prop} {a b : World} (h : Touch F a b) {g o : Nat} (hp : F g ∨ a.heap.size ≤ g) (u : Value) : Touch F a (b.setCell ⟨g, o, none⟩ u) := h.setCell (p := ⟨g, o, none⟩) hp u

theorem Touch.setCells {F : Nat → Prop} {a : World} {g : Nat} (hp : F g ∨ a.heap.size ≤ g) : ∀ (vs : List Value) (o : Nat) (b : World), Touch F a b → Touch F a (b.setCells g o vs)
  | [], _, _, h => h
  | v :: vs, o, b, h => by
    rw [World.setCells]
    exact Touch.setCells hp vs (o + 1) _ (h.setCell_ hp v)
/-- '[]byte(s)' -/
def rowsU8 (l : List UInt8) : List (List Value) := l.map fun c => [u8 c]
theorem conv_bytes {P : Program} (w : World) (src dst e : TypeId) (l : List UInt8) (hs : P.underlying src = some .string) (hd : P.underlying dst = some (.slice e)) (he : P.underlying e = some (.int .u8)) :
    ∃ cap W', (convert src dst (.string (bs l))).run P w = .ok (.slice (some ⟨w.heap.size, 0, none⟩) l.length cap) W' ∧ At W' 1 (some ⟨w.heap.size, 0, none⟩) (rowsU8 l) ∧ Below w.heap.size w W' ∧ w.heap.size < W'.heap.size := by
  refine ⟨_, _, run_bytes_of_string w src dst e (bs l) hs hd he, ?_, ((Below.refl _ _).drew).alloc (Nat.le_refl _) _, by simp⟩
  intro i r hr
  simp only [rowsU8, List.getElem?_map, Option.map_eq_some_iff] at hr
  obtain ⟨c, hc, rfl⟩ := hr
  have hi : i < l.length := (List.getElem?_eq_some_iff.1 hc).1
  refine ⟨w.heap.size, 0, rfl, by simp, fun j u hu => ?_⟩
  obtain rfl : j = 0 := by
    have := (List.getElem?_eq_some_iff.1 hu).1
    simp at this
    exact this
  simp only [List.getElem?_cons_zero, Option.some.injEq] at hu
  subst hu
  have h1 := World.cell?_alloc_mark w.drew (bytesRow (bs l) (grownCap w (bs l).size 0 e)) e ((bytesRow (bs l) (grownCap w (bs l).size 0 e)).size, (bytesRow (bs l) (grownCap w (bs l).size 0 e)).size + 1) i
  have h2 := bytesRow_at (bs l) (grownCap w (bs l).size 0 e) i (by simpa using hi)
  have h3 : (bs l).data[i]'(by simpa using hi) = c := by
    have := (List.getElem?_eq_some_iff.1 hc).2
    simpa using this
  rw [h3] at h2
  simpa [Nat.mul_one, u8] using h1.trans h2
theorem rowsU8_cell {w : World} {b : Nat} {l : List UInt8} (h : At w 1 (some ⟨b, 0, none⟩) (rowsU8 l)) {k : Nat} (hk : k < l.length) : w.cell? ⟨b, k, none⟩ = some (.int .u8 (l[k].toNat : Int)) := by
  obtain ⟨b', off, he, -, hc⟩ := h.getD (k := k) (by simpa [rowsU8] using hk)
  injection he with he
  injection he with h1 h2
  subst h1; subst h2
  have := hc 0 (u8 l[k]) (by simp [rowsU8])
  simpa [u8] using this

theorem or_step (v c : Nat) (hv : v < 72057594037927936) (hc : c < 256) : bits .or .u64 (IntKind.u64.wrap ((v : Int) * 256)) (IntKind.u64.wrap (c : Int)) = ((v * 256 + c : Nat) : Int) := by
  have e1 : IntKind.u64.wrap ((v : Int) * 256) = ((v * 256 : Nat) : Int) := by rw [IntKind.wrap_u64]; omega
  have e2 : IntKind.u64.wrap (c : Int) = (c : Int) := by rw [IntKind.wrap_u64]; omega
  rw [e1, e2, bits_or_u64_nat _ _ (by omega) (by omega)]
  congr 1
  have := Nat.shiftLeft_add_eq_or_of_lt (i := 8) (b := c) (by omega) v
  rw [Nat.shiftLeft_eq, show (2 : Nat) ^ 8 = 256 from rfl] at this
  omega

end Go.Proofs.Ytmkhpgpnahligaa

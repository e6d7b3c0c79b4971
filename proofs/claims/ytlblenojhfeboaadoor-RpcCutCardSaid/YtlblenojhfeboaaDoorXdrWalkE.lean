/-
  Layer 1, walks: a thing put to a writer; whether things are too many or too long; the fixed calls. Condition: texts of at most 2^20 bytes.
-/
import Derived.Test.YtlblenojhfeboaaDoorXdrWalkD
namespace Go.Proofs.YtlblenojhfeboaaDoor
open Go.RowKit
attribute [local go_sem ↓] Go.wp_at_zero Go.wp_at_succ

theorem refused {g : Nat} {sv : Value} {l : List UInt8} {B : Nat} {w w' : World} (hW : Wr w g sv l) (hb : Below B w w') (hB : w.heap.size ≤ B) : Moved g sv (l ++ []) w w' := by
  rw [List.append_nil]
  have hb' : Below w.heap.size w w' := hb.mono hB
  exact ⟨sv, hW.stays hb', fun _ e => .inl e, Touch.of_below hb' _⟩

end Go.Proofs.YtlblenojhfeboaaDoor

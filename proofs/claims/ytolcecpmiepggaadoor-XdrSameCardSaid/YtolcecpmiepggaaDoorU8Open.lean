/-
  How a slice of bytes that came in is read. No condition.
-/
import Derived.Test.YtolcecpmiepggaaDoorProg
import Derived.Test.YtolcecpmiepggaaDoorXdrLawD
import Derived.Test.YtolcecpmiepggaaDoorOpen
namespace Go.Proofs.YtolcecpmiepggaaDoor
open Go.ChangeShapes Go.WideShapes Go.ChangeAt Go.RowKit Go.Deep
section
variable {H : Type} {enc : TypeId × Value → H} {w : World} {base : Nat} {spare : Nat → Bool} {held : Bool} {fuel : Nat} {cs : List Value} {x : DataW H × List MemPlace}

theorem open_u8 (h : DataW.trod enc Tryd.prog w base spare held fuel 5 cs = some x) : ∃ b : UInt8, cs = u8Row b ∧ True := by
  obtain ⟨n, rfl, _, hw⟩ := DataW.trod_int Tryd.underlying5 h
  have hb : 0 ≤ n ∧ n ≤ 255 := by
    simp [Lit.wf, IntKind.min, IntKind.max, IntKind.signed, IntKind.bits] at hw
    omega
  refine ⟨UInt8.ofNat n.toNat, ?_, trivial⟩
  unfold u8Row u8
  have h2 : (UInt8.ofNat n.toNat).toNat = n.toNat := by
    rw [UInt8.toNat_ofNat']; omega
  rw [h2, Int.toNat_of_nonneg hb.1]
theorem open_u8s (hlt : ∀ p ∈ x.2, p.block < w.heap.size) {A : Option Addr} {n c : Nat} (h : DataW.trod enc Tryd.prog w base spare held fuel 36 [.slice A n c] = some x) :
    ∃ ts : List UInt8, n = ts.length ∧ n ≤ maxLen ∧ At w 1 A (ts.map u8Row) ∧ ∀ t ∈ ts, True := by
  obtain ⟨ts, rfl, hA, hg⟩ := rows_of (α := UInt8) (sz := 1) Tryd.underlying36 (by kernel_rfl) (by omega) u8Row (fun _ => True) hlt (fun _ _ _ _ ht => open_u8 ht) h
  exact ⟨ts, rfl, slice_len Tryd.underlying36 h, hA, hg⟩
end
end Go.Proofs.YtolcecpmiepggaaDoor

/-
  A whole struct is loaded where the world is not known yet (a region that draws its order, walked by go_quiet): what is loaded stands behind a name until the row is known. No condition.
-/
import Derived.Test.YtmkhpgpnahligaaMem
namespace Go.Proofs.Ytmkhpgpnahligaa
open Go.RowKit

/-- the row, if it is known; else what the load itself says -/
def ldIf (P : Program) (w : World) (r : Option (Array Value)) (ρ : Operand → Value) (o : Oper) : Result Next :=
  match r with
  | some cs => .ok (.value (.agg cs)) w
  | none => (execOp ρ o).run P w
theorem ldIf_some (P : Program) (w : World) (cs : Array Value) (ρ : Operand → Value) (o : Oper) : ldIf P w (some cs) ρ o = .ok (.value (.agg cs)) w := rfl
theorem ld_if {P : Program} {ρ : Operand → Value} {w : World} {dst : Option Tmp} {ty : TypeId} {pos : String} {after : Array Edge} {g : Option (Nat × Bool)} {x : Operand} (T n : Nat) {d : TypeDesc}
    (hu : P.underlying T = some d) (hd : d.isRow = true) (hi : (P.info? T).map (·.size) = some n) :
    (execOp ρ ⟨dst, .load T x, ty, pos, after, g⟩).run P w = ldIf P w (rowAt w n (ρ x)) ρ ⟨dst, .load T x, ty, pos, after, g⟩ := by
  cases hr : rowAt w n (ρ x) with
  | none => rfl
  | some cs =>
    rw [ex_load T n hu hd hi (by rw [hr]; rfl), hr]
    rfl
end Go.Proofs.Ytmkhpgpnahligaa

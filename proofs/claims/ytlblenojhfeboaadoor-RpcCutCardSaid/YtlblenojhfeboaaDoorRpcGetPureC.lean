/-
  Layer 9 in plain words: what the document's Get gives (written by wip/tools/genrefget9.py). No condition.
-/
import Derived.Test.YtlblenojhfeboaaDoorRpcWalkI
namespace Go.Proofs.YtlblenojhfeboaaDoor

/-- what the document's Get gives, of n bytes with the numbers f 0, f 1, .. -/
def refG (n : Nat) (f : Nat → Int) (r24 r56 : List UInt8) : Message × Int :=
  if 2048 < n then (msg0, 4)
  else if f 1 ≠ 0 ∧ f 1 ≠ 1 then (msg0, 14)
  else if f 1 = 1 then
    if f 2 ≠ 0 ∨ f 3 < 0 ∨ 1 < f 3 ∨ f 4 ≠ 0 ∨ f 5 < 0 then (msg0, 14)
    else if Message.fit ⟨f 0, true, f 3 == 1, 0, cred0, f 5, r24⟩ then (⟨f 0, true, f 3 == 1, 0, cred0, f 5, r24⟩, 0) else (msg0, 14)
  else if f 2 ≠ 2 ∨ f 3 < 0 then (msg0, 14)
  else if f 3 ≠ 100003 then (⟨f 0, false, false, 0, cred0, 1, []⟩, 0)
  else if f 4 < 0 then (msg0, 14)
  else if f 4 ≠ 3 then (⟨f 0, false, false, 0, cred0, 2, []⟩, 0)
  else if f 13 < 0 then (msg0, 14)
  else if 21 < f 5 then (⟨f 0, false, false, 0, cred0, 3, []⟩, 0)
  else if f 6 ≠ 1 ∨ f 7 ≠ 16 ∨ f 12 ≠ 0 ∨ f 13 ≠ 0 ∨ Cred.ok ⟨f 8, f 9, f 10, f 11⟩ = false ∨ n % 4 ≠ 0 then (⟨f 0, false, false, 0, cred0, 4, []⟩, 0)
  else (⟨f 0, false, false, f 5, ⟨f 8, f 9, f 10, f 11⟩, 0, r56⟩, 0)

end Go.Proofs.YtlblenojhfeboaaDoor

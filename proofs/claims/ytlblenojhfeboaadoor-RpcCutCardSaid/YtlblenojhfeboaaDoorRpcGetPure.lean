/-
  Layer 9 in plain words: what bytes are a message. No condition.
-/
import Derived.Test.YtlblenojhfeboaaDoorRpcPure
namespace Go.Proofs.YtlblenojhfeboaaDoor

/-- a call, behind its Xid and its kind: n bytes, the words f 0, f 1, .., what lies behind the twelfth; none: it is given up -/
def calledG (x : Int) (n : Nat) (f : Nat → Nat) (rest : List UInt8) : Option Message :=
  if n < 4 then none else if f 0 ≠ 2 then none else if n < 8 then none else if f 1 ≠ 100003 then some ⟨x, false, false, 0, cred0, 1, []⟩
  else if n < 12 then none else if f 2 ≠ 3 then some ⟨x, false, false, 0, cred0, 2, []⟩
  else if n < 48 then none
  else if thereP (f 3) = false then some ⟨x, false, false, 0, cred0, 3, []⟩
  else if f 4 ≠ 1 ∨ f 5 ≠ 16 ∨ f 10 ≠ 0 ∨ f 11 ≠ 0 ∨ Cred.ok ⟨f 6, f 7, f 8, f 9⟩ = false ∨ n % 4 ≠ 0 then some ⟨x, false, false, 0, cred0, 4, []⟩
  else some ⟨x, false, false, f 3, ⟨f 6, f 7, f 8, f 9⟩, 0, rest⟩
/-- an answer, behind its Xid and its kind -/
def answeredG (x : Int) (n : Nat) (f : Nat → Nat) (rest : List UInt8) : Option Message :=
  if n < 16 then none else if f 0 ≠ 0 ∨ 1 < f 1 ∨ f 2 ≠ 0 ∨ n % 4 ≠ 0 then none
  else if Message.may ⟨x, true, f 1 == 1, 0, cred0, f 3, rest⟩ then some ⟨x, true, f 1 == 1, 0, cred0, f 3, rest⟩ else none
end Go.Proofs.YtlblenojhfeboaaDoor

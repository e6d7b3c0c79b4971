/-
  Layer 9 in plain words: what messages may be, and their bytes. No condition.
-/
import Derived.Test.YtlblenojhfeboaaDoorApiWire
namespace Go.Proofs.YtlblenojhfeboaaDoor

def num32 (n least : Int) : Bool := decide (least ≤ n) && decide (n ≤ 4294967295)
def Cred.ok (c : Cred) : Bool := decide (1 ≤ c.client) && (decide (c.client ≤ 4) && (num32 c.seq 1 && (num32 c.uid 0 && num32 c.gid 0)))
def thereP (p : Int) : Bool := decide (0 ≤ p) && decide (p ≤ 21)
def cred0 : Cred := ⟨0, 0, 0, 0⟩
def Message.may (m : Message) : Bool :=
  num32 m.xid 0 && ((m.body.length % 4 == 0) &&
    (if m.answer then (m.proc == 0) && (decide (m.cred = cred0) && (decide (0 ≤ m.accept) && (decide (m.accept ≤ 4) && ((m.accept == 0) || (m.body.isEmpty && !m.again)))))
     else thereP m.proc && (m.cred.ok && ((m.accept == 0) && !m.again))))
def Message.nums (m : Message) : List Int :=
  if m.answer then [m.xid, 1, 0, if m.again then 1 else 0, 0, m.accept]
  else [m.xid, 0, 2, 100003, 3, m.proc, 1, 16, m.cred.client, m.cred.seq, m.cred.uid, m.cred.gid, 0, 0]
def nums4 (l : List Int) : List UInt8 := l.flatMap fun n => num n.toNat 4
def Message.bytes (m : Message) : List UInt8 := nums4 m.nums ++ filled m.body
/-- why a message may not be -/
def Message.bad (m : Message) : Bool := !m.may || (decide (2048 < m.body.length) || decide (2048 < m.bytes.length))
end Go.Proofs.YtlblenojhfeboaaDoor

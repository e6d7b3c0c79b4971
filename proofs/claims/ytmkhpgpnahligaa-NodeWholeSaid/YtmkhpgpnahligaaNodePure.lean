/-
  Layer 20 in plain words: bytes of a node are read, written, resized. No condition.
-/
import Derived.Test.YtmkhpgpnahligaaXdrPure
namespace Go.Proofs.Ytmkhpgpnahligaa

def nFrom (d : List UInt8) (off : Int) : Nat := (min (max off 0) (d.length : Int)).toNat
def nCount (d : List UInt8) (off count : Int) : Nat := (min (min (max count 0) 256) ((d.length : Int) - nFrom d off)).toNat
def nRead (d : List UInt8) (off count : Int) : List UInt8 × Bool := ((d.drop (nFrom d off)).take (nCount d off count), nFrom d off + nCount d off count == d.length)
def nFill (d : List UInt8) (n : Nat) : List UInt8 := d ++ List.replicate (n - d.length) 0
def nWrite (d : List UInt8) (off : Int) (t : List UInt8) : List UInt8 × Int :=
  if off < 0 then ([], 22)
  else if t = [] then (d, 0)
  else if 1024 < off ∨ 1024 - off < (t.length : Int) then ([], 27)
  else ((nFill d (off.toNat + t.length)).take off.toNat ++ (t ++ (nFill d (off.toNat + t.length)).drop (off.toNat + t.length)), 0)
def nResize (d : List UInt8) (n : Int) : List UInt8 × Int :=
  if n < 0 then ([], 22) else if 1024 < n then ([], 27) else ((nFill d n.toNat).take n.toNat, 0)
theorem nFill_len (d : List UInt8) (n : Nat) : (nFill d n).length = max d.length n := by simp [nFill]; omega
end Go.Proofs.Ytmkhpgpnahligaa

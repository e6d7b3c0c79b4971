/-
  Layer 1: a thing that is written or read, its cells, its bytes, and what is wrong with it. No condition.
-/
import Derived.Test.YtlblenojhfeboaaDoorXdrMem
import Derived.OpenShut
namespace Go.Proofs.YtlblenojhfeboaaDoor
open Go.RowKit

structure Thing where
  kind : Int
  n : Int
  is : Bool
  s : List UInt8
def Thing.vals (x : Thing) : List Value := [.int .i64 x.kind, .int .i64 x.n, .bool x.is, .string (bs x.s)]
theorem Thing.len (x : Thing) : x.vals.length = 4 := rfl
theorem Thing.one (x : Thing) : ∀ v ∈ x.vals, v.oneCell' = true := by
  intro v hv
  unfold Thing.vals at hv
  simp only [List.mem_cons, List.not_mem_nil, or_false] at hv
  rcases hv with rfl | rfl | rfl | rfl <;> rfl
def Thing.good (x : Thing) : Prop := (Lit.int .i64 x.kind).wf = true ∧ (Lit.int .i64 x.n).wf = true ∧ x.s.length ≤ maxLen
instance : Inhabited Thing := ⟨⟨0, 0, false, []⟩⟩

def Thing.err (t : Thing) : Int :=
  if t.kind = 1 then (if t.n < 0 ∨ 4294967295 < t.n then 3 else 0)
  else if t.kind = 2 then (if t.n < 0 then 3 else 0)
  else if t.kind = 6 then (if t.is = true ∧ t.n < 0 then 3 else 0)
  else 0
def Thing.bytes (t : Thing) : List UInt8 :=
  if t.kind = 1 then (if t.n < 0 ∨ 4294967295 < t.n then [] else num t.n.toNat 4)
  else if t.kind = 2 then (if t.n < 0 then [] else num t.n.toNat 8)
  else if t.kind = 3 then truth t.is
  else if t.kind = 4 then filled t.s
  else if t.kind = 5 then opq t.s
  else if t.kind = 6 then (if t.is = true ∧ t.n < 0 then [] else optB t.is t.n)
  else []
theorem Thing.bytes_len (t : Thing) : t.bytes.length ≤ t.s.length + 16 := by
  have hp := padn_lt t.s.length
  unfold Thing.bytes truth optB truth opq
  repeat' split
  all_goals simp [num_len, filled_len]
  all_goals omega

/-- a new writer -/
theorem Wr.fresh (w : World) : Wr (w.alloc (.cells #[.slice none 0 0] 87)) w.heap.size (.slice none 0 0) [] := ⟨Blk.new _ _ _, World.ownsRow_nil _ _ _ _⟩
theorem Moved.below {g : Nat} {sv : Value} {l : List UInt8} {B : Nat} {w w' : World} (h : Moved g sv l w w') (hg : B ≤ g) (hs : ∀ k, sv.ownBlock = some k → B ≤ k) (hB : B ≤ w.heap.size) : Below B w w' := by
  obtain ⟨_, _, _, ht⟩ := h
  refine ht.below (fun k _ hf => ?_) hB
  rcases hf with rfl | hf
  · exact hg
  · exact hs k hf
end Go.Proofs.YtlblenojhfeboaaDoor
